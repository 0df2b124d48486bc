/-
  A balance, posting by posting, by walking the document's text; conditions: the postings lie in memory, int64 numbers.
-/
import Derived.Test.YthiokpjakiidjaaBkB
import Derived.Test.YthiokpjakiidjaaJoin
namespace Go.Proofs.Ythiokpjakiidjaa
open Go.RowKit Go.Own

set_option maxHeartbeats 8000000 in
set_option maxRecDepth 100000 in
theorem sum_any {W : World} {v : Value} {l : List Pst} (n o : Int) (h : IsL W 5 v (l.map pstC)) (hw : ∀ p ∈ l, WfP p) : Calls Try.prog 26 #[v, .int .i64 n, .int .i64 o] W fun e w' => e = .returned (.tuple #[.int .i64 (sumR l n o).1, .bool (sumR l n o).2]) ∧ Below W.heap.size W w' := by
  have HH := Lib.hid h
  have HW := Lib.hid hw
  obtain ⟨sp, sc, rfl, hmx⟩ := h.slice
  rw [List.length_map] at hmx HH ⊢
  have hmx' : (l.length : Int) ≤ 9223372036854775807 := by unfold maxLen at hmx; omega
  have HO := Own.start W
  clear h hw
  go_enter Try.func26, Try.ntmps26
  go_wp2_with fail
  go_loopw [8, 9, 10] (fun m ok i wr => ∃ j : Nat, j ≤ l.length ∧ i = .int .i64 (j : Int) ∧ m = .int .i64 (sumR (l.take j) n o).1 ∧ ok = .bool (sumR (l.take j) n o).2 ∧ Own W wr []) (fun _ _ i _ => l.length - (intOf i).toNat)
  case atStart => exact ⟨0, by omega, rfl, rfl, rfl, HO⟩
  case round =>
    clear HO
    obtain ⟨j, hj, rfl, rfl, rfl, HO⟩ := hrel
    by_cases hjl : j < l.length
    · have hjI : (j : Int) < (l.length : Int) := by omega
      have HS := Lib.hid (sumR_in (l.take j) n o)
      have HE := Lib.hid (sumR_take (n := n) (o := o) hjl)
      have HX := Lib.hid (fun h => sumR_stop (l := l) (n := n) (o := o) (j := j) h)
      generalize sumR (l.take j) n o = s at *
      obtain ⟨m, ok⟩ := s
      cases ok
      · clear HE HS
        go_wp2_with fail
        refine bodyPost_ret ?_ rfl ⟨by rw [HX.out (by trivial)], HO.grown⟩
        (simp only [results, Try.results26]; go_simp)
      · clear HX
        obtain ⟨a, rfl, hst⟩ := oldAt HH.out rfl hjl
        replace hst := Lib.hid hst
        have hp := HW.out _ (List.getElem_mem hjl)
        have hc := step_cases l[j] n o m
        have hmi : inI m = true := HS.out
        generalize l[j] = p at *
        obtain ⟨id, po, pd, pc, pa⟩ := p
        have hpa : inI pa = true := hp.a
        simp only at hc
        have HL := fun w' (h1 : Own W w' []) => hst.out w' h1.grown
        have RA := fun w => rAdd_any hmi hpa w
        have RS := fun w => rSub_any hmi hpa w
        clear hp HS hmi hpa hst
        rcases hc with ⟨g1, g2, g3⟩ | ⟨g | ⟨g1, g2⟩, ⟨g3, g4⟩ | ⟨g3, g4, g5⟩ | ⟨g3, g4, g5⟩⟩
        all_goals
          have HG := Lib.hid (by assumption : stepR n o (m, true) ⟨id, po, pd, pc, pa⟩ = _)
          go_wp2_with (first | (first | go_big_skip | ((with_reducible apply wpList_loadAll HO); exact rfl; exact rfl; (repeat (with_reducible (first | exact At.head _ | apply At.tail))); infer_instance; exact rfl; exact rfl; (simp only [Act.put, List.setIfInBounds_toArray, List.set_cons_succ, List.set_cons_zero])) | ((with_reducible apply wpList_loadOne HO); exact rfl; exact rfl; (repeat (with_reducible (first | exact At.head _ | apply At.tail))); exact rfl; infer_instance; exact rfl; (simp only [Act.put, List.setIfInBounds_toArray, List.set_cons_succ, List.set_cons_zero]))) | ((with_reducible apply wpList_loadAt HO); exact rfl; exact rfl; exact (HL); infer_instance; exact rfl; exact rfl; (simp only [Act.put, List.setIfInBounds_toArray, List.set_cons_succ, List.set_cons_zero])) | ((with_reducible apply wpList_storeAll HO); exact rfl; exact rfl; exact rfl; (repeat (with_reducible (first | exact At.head _ | apply At.tail))); infer_instance; exact rfl; exact rfl; exact rfl; exact rfl; clear HO; intro w HO; (simp only [Act.put])) | (first | ((with_reducible apply wpList_boxAgg _ HO rfl); exact rfl; exact rfl; exact rfl; clear HO; intro b0 w HO; (simp only [Act.put, List.setIfInBounds_toArray, List.set_cons_succ, List.set_cons_zero])) | ((with_reducible apply wpList_allocAgg _ HO rfl); exact rfl; infer_instance; exact rfl; clear HO; intro b0 w HO; (simp only [Act.put, List.setIfInBounds_toArray, List.set_cons_succ, List.set_cons_zero]))) | (go_at_call 33; go_must ((with_reducible refine (RA _).mono ?_); rintro e w ⟨rfl, hb⟩; replace HO := HO.call hb; clear hb)) | (go_at_call 34; go_must ((with_reducible refine (RS _).mono ?_); rintro e w ⟨rfl, hb⟩; replace HO := HO.call hb; clear hb)))
          replace HO := HO.tail
          go_roundw
          case rel => exact ⟨j + 1, by omega, by go_num, by rw [HE.out, HG.out], by rw [HE.out, HG.out], HO⟩
          case measure => simp [intOf] <;> omega
    · obtain rfl : j = l.length := by omega
      rw [List.take_length] at *
      go_wp2_with fail
      refine bodyPost_ret ?_ rfl ⟨rfl, HO.grown⟩
      (simp only [results, Try.results26]; go_simp)
end Go.Proofs.Ythiokpjakiidjaa

/-
  The law RowsGet returns true, by walking its text; conditions: the rows lie in memory, the table of parties as laid.
-/
import Derived.Test.YtkgjcbkmdpndhaaDoorRowGetLaw
import Derived.Test.YtkgjcbkmdpndhaaDoorRowSame2
import Derived.Test.YtkgjcbkmdpndhaaDoorRowStated
namespace Go.Proofs.YtkgjcbkmdpndhaaDoor
open Go.RowKit Go.Own

set_option maxHeartbeats 4000000 in
set_option maxRecDepth 100000 in
theorem rowsGetLaw_any {W : World} {v v' : Value} {rs rs' : List RowS} (s : List UInt8) (hs : s.length ≤ maxLen) (p q p' q' : Int) (h : IsRows W v rs) (h' : IsRows W v' rs') (hL : Laid W) :
    Calls Tryd.prog 9 #[.string ⟨s.toArray⟩, .agg #[.int .i64 p, .int .i64 q, v], .agg #[.int .i64 p', .int .i64 q', v']] W fun e w' => e = .returned (.bool true) ∧ Below W.heap.size W w' := by
  have hLW := fun w' (hb : Below W.heap.size W w') => hL.below hb hL.1
  have O := fun w (hb : Below W.heap.size W w) => stated12_any w (hLW w hb)
  have hR := fun w (hb : Below W.heap.size W w) => h.below hb h.lt
  have hR' := fun w (hb : Below W.heap.size W w) => h'.below hb h'.lt
  obtain ⟨sp, sc, rfl, hmx⟩ := h.slice
  obtain ⟨sp', sc', rfl, hmx'⟩ := h'.slice
  have HO := Own.start W
  by_cases g0 : 3000 < s.length
  · have g0' : (3000 : Int) < (s.length : Int) := by omega
    clear h h' hR hR'
    go_enter Tryd.func9, Tryd.ntmps9
    go_wp2_with (first | ((with_reducible apply wpList_boxAgg _ HO rfl); exact rfl; exact rfl; exact rfl; clear HO; intro b0 w HO; (simp only [Act.put, List.setIfInBounds_toArray, List.set_cons_succ, List.set_cons_zero])) | (first | go_big_skip | ((with_reducible apply wpList_loadAll HO); exact rfl; exact rfl; (repeat (with_reducible (first | exact At.head _ | apply At.tail))); infer_instance; exact rfl; exact rfl; (simp only [Act.put, List.setIfInBounds_toArray, List.set_cons_succ, List.set_cons_zero])) | ((with_reducible apply wpList_loadOne HO); exact rfl; exact rfl; (repeat (with_reducible (first | exact At.head _ | apply At.tail))); exact rfl; infer_instance; exact rfl; (simp only [Act.put, List.setIfInBounds_toArray, List.set_cons_succ, List.set_cons_zero]))) | (go_at_call 19; go_must ((with_reducible refine (O _ HO.grown).mono ?_); rintro e w ⟨rfl, hb⟩; replace HO := HO.call hb; clear hb)))
    go_ret
    exact ⟨rfl, HO.grown⟩
  by_cases g1 : 100 < rs.length
  · have g0' : decide ((3000 : Int) < (s.length : Int)) = false := by simp; omega
    have g1' : (100 : Int) < (rs.length : Int) := by omega
    clear h h' hR hR'
    go_enter Tryd.func9, Tryd.ntmps9
    go_wp2_with (first | ((with_reducible apply wpList_boxAgg _ HO rfl); exact rfl; exact rfl; exact rfl; clear HO; intro b0 w HO; (simp only [Act.put, List.setIfInBounds_toArray, List.set_cons_succ, List.set_cons_zero])) | (first | go_big_skip | ((with_reducible apply wpList_loadAll HO); exact rfl; exact rfl; (repeat (with_reducible (first | exact At.head _ | apply At.tail))); infer_instance; exact rfl; exact rfl; (simp only [Act.put, List.setIfInBounds_toArray, List.set_cons_succ, List.set_cons_zero])) | ((with_reducible apply wpList_loadOne HO); exact rfl; exact rfl; (repeat (with_reducible (first | exact At.head _ | apply At.tail))); exact rfl; infer_instance; exact rfl; (simp only [Act.put, List.setIfInBounds_toArray, List.set_cons_succ, List.set_cons_zero]))) | (go_at_call 19; go_must ((with_reducible refine (O _ HO.grown).mono ?_); rintro e w ⟨rfl, hb⟩; replace HO := HO.call hb; clear hb)))
    go_ret
    exact ⟨rfl, HO.grown⟩
  by_cases g2 : 100 < rs'.length
  · have g0' : decide ((3000 : Int) < (s.length : Int)) = false := by simp; omega
    have g1' : decide ((100 : Int) < (rs.length : Int)) = false := by simp; omega
    have g2' : (100 : Int) < (rs'.length : Int) := by omega
    clear h h' hR hR'
    go_enter Tryd.func9, Tryd.ntmps9
    go_wp2_with (first | ((with_reducible apply wpList_boxAgg _ HO rfl); exact rfl; exact rfl; exact rfl; clear HO; intro b0 w HO; (simp only [Act.put, List.setIfInBounds_toArray, List.set_cons_succ, List.set_cons_zero])) | (first | go_big_skip | ((with_reducible apply wpList_loadAll HO); exact rfl; exact rfl; (repeat (with_reducible (first | exact At.head _ | apply At.tail))); infer_instance; exact rfl; exact rfl; (simp only [Act.put, List.setIfInBounds_toArray, List.set_cons_succ, List.set_cons_zero])) | ((with_reducible apply wpList_loadOne HO); exact rfl; exact rfl; (repeat (with_reducible (first | exact At.head _ | apply At.tail))); exact rfl; infer_instance; exact rfl; (simp only [Act.put, List.setIfInBounds_toArray, List.set_cons_succ, List.set_cons_zero]))) | (go_at_call 19; go_must ((with_reducible refine (O _ HO.grown).mono ?_); rintro e w ⟨rfl, hb⟩; replace HO := HO.call hb; clear hb)))
    go_ret
    exact ⟨rfl, HO.grown⟩
  have g0' : decide ((3000 : Int) < (s.length : Int)) = false := by simp; omega
  have g1' : decide ((100 : Int) < (rs.length : Int)) = false := by simp; omega
  have g2' : decide ((100 : Int) < (rs'.length : Int)) = false := by simp; omega
  have G1 := fun {w : World} {L : List Ent} (hh : Own W w L) => rowsGet_any s hs hh hL
  have G2 := fun {w : World} {L : List Ent} (hh : Own W w L) => refGet_any s (by omega) hh
  rw [getP_eq] at G1
  have S1 := fun w (hb : Below W.heap.size W w) => refSame_any p q p' q' (hR w hb) (hR' w hb)
  have S2 := fun w (hb : Below W.heap.size W w) => rowsSame_any p q p' q' (hR w hb) (hR' w hb)
  have S3 := fun w (hb : Below W.heap.size W w) => rowsSame_any p q p q (hR w hb) (hR w hb)
  rw [sameStmt_iff.2 ⟨rfl, rfl, rfl⟩] at S3
  clear h h' hR hR' hL
  generalize sameStmt p q rs p' q' rs' = z at *
  cases hG : getR s with
  | none =>
    rw [hG] at G1 G2
    unfold StmtPost at G1 G2
    have S0 := fun w => @refSame_any w (.slice none 0 0) (.slice none 0 0) [] [] 0 0 0 0 (.none none 0 (fun _ => rfl)) (.none none 0 (fun _ => rfl))
    rw [sameStmt_iff.2 ⟨rfl, rfl, rfl⟩] at S0
    clear hG
    cases z
    all_goals
      go_enter Tryd.func9, Tryd.ntmps9
      go_wp2_with (first | ((with_reducible apply wpList_boxAgg _ HO rfl); exact rfl; exact rfl; exact rfl; clear HO; intro b0 w HO; (simp only [Act.put, List.setIfInBounds_toArray, List.set_cons_succ, List.set_cons_zero])) | (first | go_big_skip | ((with_reducible apply wpList_loadAll HO); exact rfl; exact rfl; (repeat (with_reducible (first | exact At.head _ | apply At.tail))); infer_instance; exact rfl; exact rfl; (simp only [Act.put, List.setIfInBounds_toArray, List.set_cons_succ, List.set_cons_zero])) | ((with_reducible apply wpList_loadOne HO); exact rfl; exact rfl; (repeat (with_reducible (first | exact At.head _ | apply At.tail))); exact rfl; infer_instance; exact rfl; (simp only [Act.put, List.setIfInBounds_toArray, List.set_cons_succ, List.set_cons_zero]))) | ((with_reducible apply wpList_storeAll HO); exact rfl; exact rfl; exact rfl; (repeat (with_reducible (first | exact At.head _ | apply At.tail))); infer_instance; exact rfl; exact rfl; exact rfl; exact rfl; clear HO; intro w HO; (simp only [Act.put, List.setIfInBounds_toArray, List.set_cons_succ, List.set_cons_zero])) | ((with_reducible apply wpList_allocAgg _ HO rfl); exact rfl; infer_instance; exact rfl; clear HO; intro b3 w HO; (simp only [Act.put, List.setIfInBounds_toArray, List.set_cons_succ, List.set_cons_zero])) | (go_at_call 33; go_must ((with_reducible refine (G1 HO).mono ?_); rintro e w ⟨rfl, HO1⟩; clear HO; have HO := HO1; clear HO1)) | (go_at_call 34; go_must ((with_reducible refine (G2 HO).mono ?_); rintro e w ⟨rfl, HO1⟩; clear HO; have HO := HO1; clear HO1)))
      refine region_own HO (by kernel_rfl) (by kernel_rfl) ?_
      clear HO
      intro F HF
      repeat (first | (first | go_big_quiet_skip | ((with_reducible apply wpQuiet_loadAll HF); exact rfl; exact rfl; (repeat (with_reducible (first | exact At.head _ | apply At.tail))); infer_instance; exact rfl; exact rfl; (simp only [Act.put, List.setIfInBounds_toArray, List.set_cons_succ, List.set_cons_zero])) | ((with_reducible apply wpQuiet_loadOne HF); exact rfl; exact rfl; (repeat (with_reducible (first | exact At.head _ | apply At.tail))); exact rfl; infer_instance; exact rfl; (simp only [Act.put, List.setIfInBounds_toArray, List.set_cons_succ, List.set_cons_zero])) | ((with_reducible apply wpQuiet_loadPart HF); exact rfl; exact rfl; (repeat (with_reducible (first | exact At.head _ | apply At.tail))); infer_instance; exact (Nat.le_of_ble_eq_true rfl); (simp only [List.drop_succ_cons, List.drop_zero, List.take_succ_cons, List.take_zero]; rfl); exact rfl; (simp only [Act.put, List.setIfInBounds_toArray, List.set_cons_succ, List.set_cons_zero]))) | go_big_quiet_step ((first | (go_at_call 28; first | (with_reducible exact calls_fam HF (S0 _)) | (with_reducible exact calls_fam HF (S1 _ (HF.own _).grown))) | (go_at_call 35; first | (with_reducible exact calls_fam HF (S2 _ (HF.own _).grown)) | (with_reducible exact calls_fam HF (S3 _ (HF.own _).grown))) | (go_at_call 19; (with_reducible exact calls_fam HF (O _ (HF.own _).grown))))))
      refine wpQuiet_nil ?_
      intro x
      have HO := HF.own x
      clear HF
      generalize F x = w at *
      clear x F
      go_wp2_with fail
      go_ret
      exact ⟨rfl, HO.grown⟩
  | some x =>
    obtain ⟨p1, q1, rs1⟩ := x
    rw [hG] at G1 G2
    unfold StmtPost at G1 G2
    have S0 := fun (w : World) (u u' : Value) (hu : IsRows w u rs1) (hu' : IsRows w u' rs1) => refSame_any p1 q1 p1 q1 hu hu'
    rw [sameStmt_iff.2 ⟨rfl, rfl, rfl⟩] at S0
    clear hG
    cases z
    all_goals
      go_enter Tryd.func9, Tryd.ntmps9
      go_wp2_with (first | ((with_reducible apply wpList_boxAgg _ HO rfl); exact rfl; exact rfl; exact rfl; clear HO; intro b0 w HO; (simp only [Act.put, List.setIfInBounds_toArray, List.set_cons_succ, List.set_cons_zero])) | (first | go_big_skip | ((with_reducible apply wpList_loadAll HO); exact rfl; exact rfl; (repeat (with_reducible (first | exact At.head _ | apply At.tail))); infer_instance; exact rfl; exact rfl; (simp only [Act.put, List.setIfInBounds_toArray, List.set_cons_succ, List.set_cons_zero])) | ((with_reducible apply wpList_loadOne HO); exact rfl; exact rfl; (repeat (with_reducible (first | exact At.head _ | apply At.tail))); exact rfl; infer_instance; exact rfl; (simp only [Act.put, List.setIfInBounds_toArray, List.set_cons_succ, List.set_cons_zero]))) | ((with_reducible apply wpList_storeAll HO); exact rfl; exact rfl; exact rfl; (repeat (with_reducible (first | exact At.head _ | apply At.tail))); infer_instance; exact rfl; exact rfl; exact rfl; exact rfl; clear HO; intro w HO; (simp only [Act.put, List.setIfInBounds_toArray, List.set_cons_succ, List.set_cons_zero])) | ((with_reducible apply wpList_allocAgg _ HO rfl); exact rfl; infer_instance; exact rfl; clear HO; intro b3 w HO; (simp only [Act.put, List.setIfInBounds_toArray, List.set_cons_succ, List.set_cons_zero])) | (go_at_call 33; go_must ((with_reducible refine (G1 HO).mono ?_); rintro e w ⟨x1, rfl, HO1⟩; clear HO; have HO := HO1; clear HO1; obtain ⟨pa, ca, rfl⟩ := (HO.rowForm (.head _)).1; rw [List.length_map] at HO ⊢)) | (go_at_call 34; go_must ((with_reducible refine (G2 HO).mono ?_); rintro e w ⟨x1, rfl, HO1⟩; clear HO; have HO := HO1; clear HO1; obtain ⟨pb, cb, rfl⟩ := (HO.rowForm (.head _)).1; rw [List.length_map] at HO ⊢)))
      refine region_own HO (by kernel_rfl) (by kernel_rfl) ?_
      clear HO
      intro F HF
      repeat (first | (first | go_big_quiet_skip | ((with_reducible apply wpQuiet_loadAll HF); exact rfl; exact rfl; (repeat (with_reducible (first | exact At.head _ | apply At.tail))); infer_instance; exact rfl; exact rfl; (simp only [Act.put, List.setIfInBounds_toArray, List.set_cons_succ, List.set_cons_zero])) | ((with_reducible apply wpQuiet_loadOne HF); exact rfl; exact rfl; (repeat (with_reducible (first | exact At.head _ | apply At.tail))); exact rfl; infer_instance; exact rfl; (simp only [Act.put, List.setIfInBounds_toArray, List.set_cons_succ, List.set_cons_zero])) | ((with_reducible apply wpQuiet_loadPart HF); exact rfl; exact rfl; (repeat (with_reducible (first | exact At.head _ | apply At.tail))); infer_instance; exact (Nat.le_of_ble_eq_true rfl); (simp only [List.drop_succ_cons, List.drop_zero, List.take_succ_cons, List.take_zero]; rfl); exact rfl; (simp only [Act.put, List.setIfInBounds_toArray, List.set_cons_succ, List.set_cons_zero]))) | go_big_quiet_step ((first | (go_at_call 28; first | (with_reducible exact calls_fam HF (S0 _ _ _ (ownRows (HF.own _) (.tail _ _ _ (.tail _ _ _ (.tail _ _ _ (.head _))))) (ownRows (HF.own _) (.tail _ _ _ (.head _))))) | (with_reducible exact calls_fam HF (S1 _ (HF.own _).grown))) | (go_at_call 35; first | (with_reducible exact calls_fam HF (S2 _ (HF.own _).grown)) | (with_reducible exact calls_fam HF (S3 _ (HF.own _).grown))) | (go_at_call 19; (with_reducible exact calls_fam HF (O _ (HF.own _).grown))))))
      refine wpQuiet_nil ?_
      intro x
      have HO := HF.own x
      clear HF
      generalize F x = w at *
      clear x F
      go_wp2_with fail
      go_ret
      exact ⟨rfl, HO.grown⟩
end Go.Proofs.YtkgjcbkmdpndhaaDoor

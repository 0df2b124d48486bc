/-
  The law EntriesTell returns true, by walking its text; conditions: the rows lie in memory, texts no longer than memory bears, the table of parties as laid.
-/
import Derived.Test.YtlfphfklcifgpaaDoorEntW
namespace Go.Proofs.YtlfphfklcifgpaaDoor
open Go.RowKit Go.Own

set_option maxHeartbeats 8000000 in
set_option maxRecDepth 100000 in
theorem entTell_any {W : World} {va vb : Value} (a b : EntS) (s : List UInt8) (ha : IsRows W va a.rs) (hb : IsRows W vb b.rs) (a1 : a.ref.length ≤ maxLen) (a2 : a.sku.length ≤ maxLen) (b1 : b.ref.length ≤ maxLen) (b2 : b.sku.length ≤ maxLen) (hs : s.length ≤ maxLen) (hL : Laid W) :
    Calls Tryd.prog 8 #[.agg #[.int .i64 (a).k, .int .i64 (a).id, .string ⟨(a).ref.toArray⟩, .string ⟨(a).sku.toArray⟩, .int .i64 (a).qty, .int .i64 (a).amt, .int .i64 (a).o, .int .i64 (a).d, .int .i64 (a).c, .int .i64 (a).p, .int .i64 (a).q, va], .agg #[.int .i64 (b).k, .int .i64 (b).id, .string ⟨(b).ref.toArray⟩, .string ⟨(b).sku.toArray⟩, .int .i64 (b).qty, .int .i64 (b).amt, .int .i64 (b).o, .int .i64 (b).d, .int .i64 (b).c, .int .i64 (b).p, .int .i64 (b).q, vb], .string ⟨s.toArray⟩] W fun e w' => e = .returned (.bool true) ∧ Below W.heap.size W w' := by
  have hLW := fun w' (h : Below W.heap.size W w') => hL.below h hL.1
  have O := fun w (h : Below W.heap.size W w) => entered_any w (hLW w h)
  have GA := fun w (h : Below W.heap.size W w) => great20_any a (ha.below h ha.lt) a1 a2
  have GB := fun w (h : Below W.heap.size W w) => great20_any b (hb.below h hb.lt) b1 b2
  have C1 := fun w (h : Below W.heap.size W w) => entCheck_any a (ha.below h ha.lt) (hLW w h) a1 a2
  have C2 := fun w (h : Below W.heap.size W w) => refEntCheck_any a (ha.below h ha.lt) a1 a2
  have P1 := fun w (h : Below W.heap.size W w) => entPut_any a (ha.below h ha.lt) (hLW w h) a1 a2
  have P2 := fun w (h : Below W.heap.size W w) => refEntPut_any a (ha.below h ha.lt) a1 a2
  have S1 := fun w (h : Below W.heap.size W w) => entSame_any a b (ha.below h ha.lt) (hb.below h hb.lt)
  have S2 := fun w (h : Below W.heap.size W w) => refEntSame_any a b (ha.below h ha.lt) (hb.below h hb.lt)
  have S3 := fun w (h : Below W.heap.size W w) => entSame_any a a (ha.below h ha.lt) (ha.below h ha.lt)
  rw [sameE_self] at S3
  obtain ⟨sa, ca, rfl, -⟩ := ha.slice
  obtain ⟨sb, cb, rfl, -⟩ := hb.slice
  generalize a.rs.length = na at *
  generalize b.rs.length = nb at *
  generalize checkE a = ce at *
  generalize putE a = pe at *
  generalize sameE a b = z at *
  have HO := Own.start W
  unfold maxLen at hs
  clear ha hb a1 a2 b1 b2
  cases ga : greatE a
  rotate_left
  · rw [ga] at GA
    clear C1 C2 P1 P2 S1 S2 S3 GB ga
    go_enter Tryd.func8, Tryd.ntmps8
    go_wp2_with (first | (first | go_big_skip | ((with_reducible apply wpList_loadAll HO); exact rfl; exact rfl; (repeat (with_reducible (first | exact At.head _ | apply At.tail))); infer_instance; exact rfl; exact rfl; (simp only [Act.put, List.setIfInBounds_toArray, List.set_cons_succ, List.set_cons_zero])) | ((with_reducible apply wpList_loadOne HO); exact rfl; exact rfl; (repeat (with_reducible (first | exact At.head _ | apply At.tail))); exact rfl; infer_instance; exact rfl; (simp only [Act.put, List.setIfInBounds_toArray, List.set_cons_succ, List.set_cons_zero])) | ((with_reducible apply wpList_storeAll HO); exact rfl; exact rfl; exact rfl; (repeat (with_reducible (first | exact At.head _ | apply At.tail))); infer_instance; exact rfl; exact rfl; exact rfl; exact rfl; clear HO; intro w HO; (simp only [Act.put])) | (first | ((with_reducible apply wpList_boxAgg _ HO rfl); exact rfl; exact rfl; exact rfl; clear HO; intro b0 w HO; (simp only [Act.put, List.setIfInBounds_toArray, List.set_cons_succ, List.set_cons_zero])) | ((with_reducible apply wpList_allocAgg _ HO rfl); exact rfl; infer_instance; exact rfl; clear HO; intro b0 w HO; (simp only [Act.put, List.setIfInBounds_toArray, List.set_cons_succ, List.set_cons_zero])))) | (go_at_call 33; go_must ((with_reducible refine (GA _ HO.grown).mono ?_); rintro e w ⟨rfl, hb⟩; replace HO := HO.call hb; clear hb)) | (go_at_call 34; go_must ((with_reducible refine (O _ HO.grown).mono ?_); rintro e w ⟨rfl, hb⟩; replace HO := HO.call hb; clear hb)))
    go_ret
    exact ⟨rfl, HO.grown⟩
  · rw [ga] at GA
    cases gb : greatE b
    rotate_left
    · rw [gb] at GB
      clear C1 C2 P1 P2 S1 S2 S3 ga gb
      go_enter Tryd.func8, Tryd.ntmps8
      go_wp2_with (first | (first | go_big_skip | ((with_reducible apply wpList_loadAll HO); exact rfl; exact rfl; (repeat (with_reducible (first | exact At.head _ | apply At.tail))); infer_instance; exact rfl; exact rfl; (simp only [Act.put, List.setIfInBounds_toArray, List.set_cons_succ, List.set_cons_zero])) | ((with_reducible apply wpList_loadOne HO); exact rfl; exact rfl; (repeat (with_reducible (first | exact At.head _ | apply At.tail))); exact rfl; infer_instance; exact rfl; (simp only [Act.put, List.setIfInBounds_toArray, List.set_cons_succ, List.set_cons_zero])) | ((with_reducible apply wpList_storeAll HO); exact rfl; exact rfl; exact rfl; (repeat (with_reducible (first | exact At.head _ | apply At.tail))); infer_instance; exact rfl; exact rfl; exact rfl; exact rfl; clear HO; intro w HO; (simp only [Act.put])) | (first | ((with_reducible apply wpList_boxAgg _ HO rfl); exact rfl; exact rfl; exact rfl; clear HO; intro b0 w HO; (simp only [Act.put, List.setIfInBounds_toArray, List.set_cons_succ, List.set_cons_zero])) | ((with_reducible apply wpList_allocAgg _ HO rfl); exact rfl; infer_instance; exact rfl; clear HO; intro b0 w HO; (simp only [Act.put, List.setIfInBounds_toArray, List.set_cons_succ, List.set_cons_zero])))) | (go_at_call 33; first | ((with_reducible refine (GA _ HO.grown).mono ?_); (rintro e w ⟨rfl, hb⟩; replace HO := HO.call hb; clear hb)) | ((with_reducible refine (GB _ HO.grown).mono ?_); (rintro e w ⟨rfl, hb⟩; replace HO := HO.call hb; clear hb))) | (go_at_call 34; go_must ((with_reducible refine (O _ HO.grown).mono ?_); rintro e w ⟨rfl, hb⟩; replace HO := HO.call hb; clear hb)))
      go_ret
      exact ⟨rfl, HO.grown⟩
    · rw [gb] at GB
      by_cases gs : 1000 < s.length
      · have gs' : (1000 : Int) < (s.length : Int) := by omega
        clear C1 C2 P1 P2 S1 S2 S3 ga gb
        go_enter Tryd.func8, Tryd.ntmps8
        go_wp2_with (first | (first | go_big_skip | ((with_reducible apply wpList_loadAll HO); exact rfl; exact rfl; (repeat (with_reducible (first | exact At.head _ | apply At.tail))); infer_instance; exact rfl; exact rfl; (simp only [Act.put, List.setIfInBounds_toArray, List.set_cons_succ, List.set_cons_zero])) | ((with_reducible apply wpList_loadOne HO); exact rfl; exact rfl; (repeat (with_reducible (first | exact At.head _ | apply At.tail))); exact rfl; infer_instance; exact rfl; (simp only [Act.put, List.setIfInBounds_toArray, List.set_cons_succ, List.set_cons_zero])) | ((with_reducible apply wpList_storeAll HO); exact rfl; exact rfl; exact rfl; (repeat (with_reducible (first | exact At.head _ | apply At.tail))); infer_instance; exact rfl; exact rfl; exact rfl; exact rfl; clear HO; intro w HO; (simp only [Act.put])) | (first | ((with_reducible apply wpList_boxAgg _ HO rfl); exact rfl; exact rfl; exact rfl; clear HO; intro b0 w HO; (simp only [Act.put, List.setIfInBounds_toArray, List.set_cons_succ, List.set_cons_zero])) | ((with_reducible apply wpList_allocAgg _ HO rfl); exact rfl; infer_instance; exact rfl; clear HO; intro b0 w HO; (simp only [Act.put, List.setIfInBounds_toArray, List.set_cons_succ, List.set_cons_zero])))) | (go_at_call 33; first | ((with_reducible refine (GA _ HO.grown).mono ?_); (rintro e w ⟨rfl, hb⟩; replace HO := HO.call hb; clear hb)) | ((with_reducible refine (GB _ HO.grown).mono ?_); (rintro e w ⟨rfl, hb⟩; replace HO := HO.call hb; clear hb))) | (go_at_call 34; go_must ((with_reducible refine (O _ HO.grown).mono ?_); rintro e w ⟨rfl, hb⟩; replace HO := HO.call hb; clear hb)))
        go_ret
        exact ⟨rfl, HO.grown⟩
      · have gs' : decide ((1000 : Int) < (s.length : Int)) = false := by simp; omega
        have G1 := fun {w : World} {L : List Ent} (hh : Own W w L) => entGet_any s (by omega) hh hL
        have G2 := fun {w : World} {L : List Ent} (hh : Own W w L) => refEntGet_any s (by omega) hh
        rw [getE_eq] at G2
        clear ga gb hL hLW
        cases hG : getEP s with
        | none =>
          rw [hG] at G1 G2
          unfold EntPost at G1 G2
          have S0 := fun w => @refEntSame_any w (.slice none 0 0) (.slice none 0 0) (zeroE 0) (zeroE 0) (.none none 0 (fun _ => rfl)) (.none none 0 (fun _ => rfl))
          rw [sameE_self] at S0
          simp only [zeroE] at G1 G2 S0
          clear hG
          cases z
          all_goals
            go_enter Tryd.func8, Tryd.ntmps8
            go_wp2_with (first | ((with_reducible apply wpList_boxAgg _ HO rfl); exact rfl; exact rfl; exact rfl; clear HO; intro b0 w HO; (simp only [Act.put, List.setIfInBounds_toArray, List.set_cons_succ, List.set_cons_zero])) | (first | go_big_skip | ((with_reducible apply wpList_loadAll HO); exact rfl; exact rfl; (repeat (with_reducible (first | exact At.head _ | apply At.tail))); infer_instance; exact rfl; exact rfl; (simp only [Act.put, List.setIfInBounds_toArray, List.set_cons_succ, List.set_cons_zero])) | ((with_reducible apply wpList_loadOne HO); exact rfl; exact rfl; (repeat (with_reducible (first | exact At.head _ | apply At.tail))); exact rfl; infer_instance; exact rfl; (simp only [Act.put, List.setIfInBounds_toArray, List.set_cons_succ, List.set_cons_zero]))) | ((with_reducible apply wpList_storeAll HO); exact rfl; exact rfl; exact rfl; (repeat (with_reducible (first | exact At.head _ | apply At.tail))); infer_instance; exact rfl; exact rfl; exact rfl; exact rfl; clear HO; intro w HO; (simp only [Act.put])) | (first | ((with_reducible apply wpList_boxAgg _ HO rfl); exact rfl; exact rfl; exact rfl; clear HO; intro b3 w HO; (simp only [Act.put, List.setIfInBounds_toArray, List.set_cons_succ, List.set_cons_zero])) | ((with_reducible apply wpList_allocAgg _ HO rfl); exact rfl; infer_instance; exact rfl; clear HO; intro b3 w HO; (simp only [Act.put, List.setIfInBounds_toArray, List.set_cons_succ, List.set_cons_zero]))) | (go_at_call 33; first | ((with_reducible refine (GA _ HO.grown).mono ?_); (rintro e w ⟨rfl, hb⟩; replace HO := HO.call hb; clear hb)) | ((with_reducible refine (GB _ HO.grown).mono ?_); (rintro e w ⟨rfl, hb⟩; replace HO := HO.call hb; clear hb))) | (go_at_call 35; go_must ((with_reducible refine (P1 _ HO.grown).mono ?_); rintro e w ⟨rfl, hb⟩; replace HO := HO.call hb; clear hb)) | (go_at_call 36; go_must ((with_reducible refine (P2 _ HO.grown).mono ?_); rintro e w ⟨rfl, hb⟩; replace HO := HO.call hb; clear hb)) | (go_at_call 37; go_must ((with_reducible refine (G1 HO).mono ?_); rintro e w ⟨rfl, HO1⟩; clear HO; have HO := HO1; clear HO1)) | (go_at_call 38; go_must ((with_reducible refine (G2 HO).mono ?_); rintro e w ⟨rfl, HO1⟩; clear HO; have HO := HO1; clear HO1)))
            refine region_own HO (by kernel_rfl) (by kernel_rfl) ?_
            clear HO
            intro F HF
            repeat (first | (first | go_big_quiet_skip | ((with_reducible apply wpQuiet_loadAll HF); exact rfl; exact rfl; (repeat (with_reducible (first | exact At.head _ | apply At.tail))); infer_instance; exact rfl; exact rfl; (simp only [Act.put, List.setIfInBounds_toArray, List.set_cons_succ, List.set_cons_zero])) | ((with_reducible apply wpQuiet_loadOne HF); exact rfl; exact rfl; (repeat (with_reducible (first | exact At.head _ | apply At.tail))); exact rfl; infer_instance; exact rfl; (simp only [Act.put, List.setIfInBounds_toArray, List.set_cons_succ, List.set_cons_zero])) | ((with_reducible apply wpQuiet_loadPart HF); exact rfl; exact rfl; (repeat (with_reducible (first | exact At.head _ | apply At.tail))); infer_instance; exact (Nat.le_of_ble_eq_true rfl); (simp only [List.drop_succ_cons, List.drop_zero, List.take_succ_cons, List.take_zero]; rfl); exact rfl; (simp only [Act.put, List.setIfInBounds_toArray, List.set_cons_succ, List.set_cons_zero]))) | go_big_quiet_step ((first | (go_at_call 39; (with_reducible exact calls_fam HF (C1 _ (HF.own _).grown))) | (go_at_call 40; (with_reducible exact calls_fam HF (C2 _ (HF.own _).grown))) | (go_at_call 41; first | (with_reducible exact calls_fam HF (S0 _)) | (with_reducible exact calls_fam HF (S2 _ (HF.own _).grown))) | (go_at_call 42; first | (with_reducible exact calls_fam HF (S1 _ (HF.own _).grown)) | (with_reducible exact calls_fam HF (S3 _ (HF.own _).grown))) | (go_at_call 34; (with_reducible exact calls_fam HF (O _ (HF.own _).grown))))))
            refine wpQuiet_nil ?_
            intro x
            have HO := HF.own x
            clear HF
            generalize F x = w at *
            clear x F
            go_wp2_with fail
            go_ret
            exact ⟨rfl, HO.grown⟩
        | some x =>
          rw [hG] at G1 G2
          unfold EntPost at G1 G2
          have S0 := fun (w : World) (u u' : Value) (hu : IsRows w u x.rs) (hu' : IsRows w u' x.rs) => refEntSame_any x x hu hu'
          rw [sameE_self] at S0
          simp only at G1 G2
          clear hG
          cases z
          all_goals
            go_enter Tryd.func8, Tryd.ntmps8
            go_wp2_with (first | ((with_reducible apply wpList_boxAgg _ HO rfl); exact rfl; exact rfl; exact rfl; clear HO; intro b0 w HO; (simp only [Act.put, List.setIfInBounds_toArray, List.set_cons_succ, List.set_cons_zero])) | (first | go_big_skip | ((with_reducible apply wpList_loadAll HO); exact rfl; exact rfl; (repeat (with_reducible (first | exact At.head _ | apply At.tail))); infer_instance; exact rfl; exact rfl; (simp only [Act.put, List.setIfInBounds_toArray, List.set_cons_succ, List.set_cons_zero])) | ((with_reducible apply wpList_loadOne HO); exact rfl; exact rfl; (repeat (with_reducible (first | exact At.head _ | apply At.tail))); exact rfl; infer_instance; exact rfl; (simp only [Act.put, List.setIfInBounds_toArray, List.set_cons_succ, List.set_cons_zero]))) | ((with_reducible apply wpList_storeAll HO); exact rfl; exact rfl; exact rfl; (repeat (with_reducible (first | exact At.head _ | apply At.tail))); infer_instance; exact rfl; exact rfl; exact rfl; exact rfl; clear HO; intro w HO; (simp only [Act.put])) | (first | ((with_reducible apply wpList_boxAgg _ HO rfl); exact rfl; exact rfl; exact rfl; clear HO; intro b3 w HO; (simp only [Act.put, List.setIfInBounds_toArray, List.set_cons_succ, List.set_cons_zero])) | ((with_reducible apply wpList_allocAgg _ HO rfl); exact rfl; infer_instance; exact rfl; clear HO; intro b3 w HO; (simp only [Act.put, List.setIfInBounds_toArray, List.set_cons_succ, List.set_cons_zero]))) | (go_at_call 33; first | ((with_reducible refine (GA _ HO.grown).mono ?_); (rintro e w ⟨rfl, hb⟩; replace HO := HO.call hb; clear hb)) | ((with_reducible refine (GB _ HO.grown).mono ?_); (rintro e w ⟨rfl, hb⟩; replace HO := HO.call hb; clear hb))) | (go_at_call 35; go_must ((with_reducible refine (P1 _ HO.grown).mono ?_); rintro e w ⟨rfl, hb⟩; replace HO := HO.call hb; clear hb)) | (go_at_call 36; go_must ((with_reducible refine (P2 _ HO.grown).mono ?_); rintro e w ⟨rfl, hb⟩; replace HO := HO.call hb; clear hb)) | (go_at_call 37; go_must ((with_reducible refine (G1 HO).mono ?_); rintro e w ⟨x1, rfl, HO1⟩; clear HO; have HO := HO1; clear HO1; obtain ⟨pa, ca1, rfl⟩ := (HO.rowForm (.head _)).1; rw [List.length_map] at HO ⊢)) | (go_at_call 38; go_must ((with_reducible refine (G2 HO).mono ?_); rintro e w ⟨x1, rfl, HO1⟩; clear HO; have HO := HO1; clear HO1; obtain ⟨pb, cb1, rfl⟩ := (HO.rowForm (.head _)).1; rw [List.length_map] at HO ⊢)))
            refine region_own HO (by kernel_rfl) (by kernel_rfl) ?_
            clear HO
            intro F HF
            repeat (first | (first | go_big_quiet_skip | ((with_reducible apply wpQuiet_loadAll HF); exact rfl; exact rfl; (repeat (with_reducible (first | exact At.head _ | apply At.tail))); infer_instance; exact rfl; exact rfl; (simp only [Act.put, List.setIfInBounds_toArray, List.set_cons_succ, List.set_cons_zero])) | ((with_reducible apply wpQuiet_loadOne HF); exact rfl; exact rfl; (repeat (with_reducible (first | exact At.head _ | apply At.tail))); exact rfl; infer_instance; exact rfl; (simp only [Act.put, List.setIfInBounds_toArray, List.set_cons_succ, List.set_cons_zero])) | ((with_reducible apply wpQuiet_loadPart HF); exact rfl; exact rfl; (repeat (with_reducible (first | exact At.head _ | apply At.tail))); infer_instance; exact (Nat.le_of_ble_eq_true rfl); (simp only [List.drop_succ_cons, List.drop_zero, List.take_succ_cons, List.take_zero]; rfl); exact rfl; (simp only [Act.put, List.setIfInBounds_toArray, List.set_cons_succ, List.set_cons_zero]))) | go_big_quiet_step ((first | (go_at_call 39; (with_reducible exact calls_fam HF (C1 _ (HF.own _).grown))) | (go_at_call 40; (with_reducible exact calls_fam HF (C2 _ (HF.own _).grown))) | (go_at_call 41; first | (with_reducible exact calls_fam HF (S0 _ _ _ (ownRows (HF.own _) (.tail _ _ _ (.tail _ _ _ (.tail _ _ _ (.head _))))) (ownRows (HF.own _) (.tail _ _ _ (.head _))))) | (with_reducible exact calls_fam HF (S2 _ (HF.own _).grown))) | (go_at_call 42; first | (with_reducible exact calls_fam HF (S1 _ (HF.own _).grown)) | (with_reducible exact calls_fam HF (S3 _ (HF.own _).grown))) | (go_at_call 34; (with_reducible exact calls_fam HF (O _ (HF.own _).grown))))))
            refine wpQuiet_nil ?_
            intro x
            have HO := HF.own x
            clear HF
            generalize F x = w at *
            clear x F
            go_wp2_with fail
            go_ret
            exact ⟨rfl, HO.grown⟩
end Go.Proofs.YtlfphfklcifgpaaDoor

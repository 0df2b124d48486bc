/-
  The law RowsFew returns true, by walking its text; conditions: the rows lie in memory, the table of parties as laid.
-/
import Derived.Test.YtkgjcbkmdpndhaaDoorRowFewLaw
import Derived.Test.YtkgjcbkmdpndhaaDoorRowGetR
import Derived.Test.YtkgjcbkmdpndhaaDoorRowStated
import Derived.Test.YtkgjcbkmdpndhaaDoorOwn4
namespace Go.Proofs.YtkgjcbkmdpndhaaDoor
open Go.RowKit Go.Own

theorem lAt_of_rows {w : World} {a : Addr} {rs : List RowS} (h : RowsAt w a rs) : LAt w a 5 (rs.map rowC) := by
  refine ⟨h.lt, fun i hi j u hu => ?_⟩
  have hi' : i < rs.length := by simpa using hi
  simp only [List.getElem_map] at hu
  match j, hu with
  | 0, hu => simp [rowC] at hu; subst hu; rw [add0]; exact h.c0 i hi'
  | 1, hu => simp [rowC] at hu; subst hu; rw [lAdd1]; exact h.c1 i hi'
  | 2, hu => simp [rowC] at hu; subst hu; rw [lAdd1]; exact h.c2 i hi'
  | 3, hu => simp [rowC] at hu; subst hu; rw [lAdd1]; exact h.c3 i hi'
  | 4, hu => simp [rowC] at hu; subst hu; rw [lAdd1]; exact h.c4 i hi'
  | j + 5, hu => simp [rowC] at hu
theorem rowC_one (rs : List RowS) : ∀ u ∈ (rs.map rowC).flatten, u.oneCell' = true := fun u hu => by
  obtain ⟨l, hl, hu⟩ := List.mem_flatten.1 hu
  obtain ⟨r, _, rfl⟩ := List.mem_map.1 hl
  simp [rowC] at hu
  rcases hu with rfl | rfl | rfl | rfl | rfl <;> rfl

theorem rowC_set (rs : List RowS) (i : Nat) (r : RowS) : ∀ l ∈ (rs.map rowC).set i (rowC r), l.length = 5 := fun l hl => by
  rcases List.mem_or_eq_of_mem_set hl with h | rfl
  · exact rowC_len rs l h
  · rfl
theorem few_add {rs F : List RowS} {j : Nat} (hj : j < rs.length) (h : F.Sublist (rs.take j)) : F.Sublist (rs.take (j + 1)) ∧ (F ++ [rs[j]]).Sublist (rs.take (j + 1)) := by
  rw [List.take_succ_eq_append_getElem hj]
  exact ⟨h.trans (List.sublist_append_left _ _), h.append (List.Sublist.refl _)⟩

set_option maxHeartbeats 4000000 in
set_option maxRecDepth 100000 in
theorem rowsFew_any {W : World} {v : Value} {rs : List RowS} (party out : Int) (h : IsRows W v rs) (ho : 0 ≤ out) (ho2 : out ≤ 65535) (hL : Laid W) :
    Calls Tryd.prog 5 #[v, .int .i64 party, .int .u16 out] W fun e w' => e = .returned (.bool true) ∧ Below W.heap.size W w' := by
  have hLW := fun w' (hb : Below W.heap.size W w') => hL.below hb hL.1
  have O := fun w (hb : Below W.heap.size W w) => stated12_any w (hLW w hb)
  have hR := fun w (hb : Below W.heap.size W w) => h.below hb h.lt
  have HH := Lib.hid h
  obtain ⟨sp, sc, rfl, hmx⟩ := h.slice
  have HO := Own.start W
  have C := fun w (hb : Below W.heap.size W w) => rowsCheck_any party (hR w hb) (hLW w hb)
  have N := fun order w (hb : Below W.heap.size W w) => net_any order (hR w hb) (hLW w hb)
  by_cases g1 : 100 < rs.length
  · have g1' : (100 : Int) < (rs.length : Int) := by omega
    clear h hR C N
    go_enter Tryd.func5, Tryd.ntmps5
    go_wp2_with (first | (first | go_big_skip | ((with_reducible apply wpList_loadAll HO); exact rfl; exact rfl; (repeat (with_reducible (first | exact At.head _ | apply At.tail))); infer_instance; exact rfl; exact rfl; (simp only [Act.put, List.setIfInBounds_toArray, List.set_cons_succ, List.set_cons_zero])) | ((with_reducible apply wpList_loadOne HO); exact rfl; exact rfl; (repeat (with_reducible (first | exact At.head _ | apply At.tail))); exact rfl; infer_instance; exact rfl; (simp only [Act.put, List.setIfInBounds_toArray, List.set_cons_succ, List.set_cons_zero]))) | (go_at_call 19; go_must ((with_reducible refine (O _ HO.grown).mono ?_); rintro e w ⟨rfl, hb⟩; replace HO := HO.call hb; clear hb)))
    go_ret
    exact ⟨rfl, HO.grown⟩
  have g1' : decide ((100 : Int) < (rs.length : Int)) = false := by simp; omega
  cases hck : chkRows rs party
  · rw [hck] at C
    clear h hR N
    go_enter Tryd.func5, Tryd.ntmps5
    go_wp2_with (first | (first | go_big_skip | ((with_reducible apply wpList_loadAll HO); exact rfl; exact rfl; (repeat (with_reducible (first | exact At.head _ | apply At.tail))); infer_instance; exact rfl; exact rfl; (simp only [Act.put, List.setIfInBounds_toArray, List.set_cons_succ, List.set_cons_zero])) | ((with_reducible apply wpList_loadOne HO); exact rfl; exact rfl; (repeat (with_reducible (first | exact At.head _ | apply At.tail))); exact rfl; infer_instance; exact rfl; (simp only [Act.put, List.setIfInBounds_toArray, List.set_cons_succ, List.set_cons_zero]))) | (go_at_call 20; go_must ((with_reducible refine (C _ HO.grown).mono ?_); rintro e w ⟨rfl, hb⟩; replace HO := HO.call hb; clear hb)) | (go_at_call 19; go_must ((with_reducible refine (O _ HO.grown).mono ?_); rintro e w ⟨rfl, hb⟩; replace HO := HO.call hb; clear hb)))
    go_ret
    exact ⟨rfl, HO.grown⟩
  · rw [hck] at C
    have HK := Lib.hid hck
    clear h hck
    have hmx' : (rs.length : Int) ≤ 100 := by omega
    replace HO := HO.nil 46 5
    go_enter Tryd.func5, Tryd.ntmps5
    go_wp2_with (first | (first | go_big_skip | ((with_reducible apply wpList_loadAll HO); exact rfl; exact rfl; (repeat (with_reducible (first | exact At.head _ | apply At.tail))); infer_instance; exact rfl; exact rfl; (simp only [Act.put, List.setIfInBounds_toArray, List.set_cons_succ, List.set_cons_zero])) | ((with_reducible apply wpList_loadOne HO); exact rfl; exact rfl; (repeat (with_reducible (first | exact At.head _ | apply At.tail))); exact rfl; infer_instance; exact rfl; (simp only [Act.put, List.setIfInBounds_toArray, List.set_cons_succ, List.set_cons_zero]))) | (go_at_call 20; go_must ((with_reducible refine (C _ HO.grown).mono ?_); rintro e w ⟨rfl, hb⟩; replace HO := HO.call hb; clear hb)))
    go_loopw [7, 8] (fun v i wr => ∃ (j : Nat) (F : List RowS), j ≤ rs.length ∧ F.Sublist (rs.take j) ∧ i = .int .i64 (j : Int) ∧ Own W wr [row 46 5 v (F.map rowC)]) (fun _ i _ => rs.length - (intOf i).toNat)
    case atStart => exact ⟨0, [], by omega, by simp, rfl, HO⟩
    case round =>
      clear HO
      obtain ⟨j, F, hj, hF, rfl, HO⟩ := hrel
      obtain ⟨⟨p1, c1, rfl⟩, -⟩ := HO.rowForm (.head _)
      rw [List.length_map] at HO
      by_cases hjl : j < rs.length
      · have hjI : (j : Int) < (rs.length : Int) := by omega
        obtain ⟨a, cap, h, _, _, hRA⟩ := HH.out.at (by omega)
        cases h
        have hFl : F.length ≤ j := Nat.le_trans hF.length_le (by rw [List.length_take]; omega)
        have hA1 : (F.map rowC).length + 1 ≤ 1000000 := by rw [List.length_map]; omega
        obtain ⟨HF1, HF2⟩ := few_add hjl hF
        replace HF1 := Lib.hid HF1
        replace HF2 := Lib.hid HF2
        have HX : (F ++ [rs[j]]).map rowC = F.map rowC ++ [rowC rs[j]] := by rw [List.map_append]; rfl
        have HA := lAt_of_rows hRA
        have HC := Lib.hid (show ∀ jj x, (rowC rs[j])[jj]? = some x → W.cell? ((a.add (j * 5)).add jj) = some x from fun jj x hx => HA.c j (by simpa using hjl) jj x (by simpa using hx))
        have HCB := Lib.hid (show (a.add (j * 5)).block < W.heap.size from hRA.lt' _)
        clear HA hRA hF hFl
        have hj16 : (0 : Int) ≤ (j : Int) % 16 := by omega
        go_wp2_with (first | ((with_reducible apply wpList_loadOld HO); exact rfl; exact rfl; exact HCB.out; exact HC.out; infer_instance; exact rfl; (simp only [Act.put, List.setIfInBounds_toArray, List.set_cons_succ, List.set_cons_zero])) | (first | ((with_reducible apply wpList_lit1 HO); exact rfl; infer_instance; infer_instance; exact rfl; exact rfl; exact (by decide); exact rfl; clear HO; intro b1 w HO; (simp only [Act.put, List.setIfInBounds_toArray, List.set_cons_succ, List.set_cons_zero])) | ((with_reducible apply wpList_lit1c HO); exact rfl; infer_instance; infer_instance; (first | (simp [Act.eval]; rfl) | exact rfl); exact rfl; exact rfl; clear HO; intro b1 w HO; (simp only [Act.put, List.setIfInBounds_toArray, List.set_cons_succ, List.set_cons_zero]))) | ((with_reducible apply wpList_push1 HO); exact rfl; infer_instance; infer_instance; (first | (simp [Act.eval]; rfl) | exact rfl); exact rfl; intro _; (repeat (with_reducible (first | exact At.head _ | apply At.tail))); exact rfl; exact rfl; (first | omega | (simp; omega)); decide; exact rfl; clear HO; intro v2 w HO hv2; (simp only [Act.put, List.setIfInBounds_toArray, List.set_cons_succ, List.set_cons_zero])))
        · exact ⟨⟨j + 1, _, by omega, HF2.out, by go_num, by rw [HX]; exact HO⟩, by simp [intOf]; omega⟩
        · exact ⟨⟨j + 1, _, by omega, HF1.out, by go_num, by rw [List.length_map]; exact HO⟩, by simp [intOf]; omega⟩
      · obtain rfl : j = rs.length := by omega
        rw [List.take_length] at hF
        have hKF := chkRows_sub HK.out hF
        have CF := fun {w : World} {v : Value} (h : IsRows w v F) (hb : Below W.heap.size W w) => rowsCheck_any party h (hLW w hb)
        rw [hKF] at CF
        clear hKF hF
        go_wp2_with (first | (first | go_big_skip | ((with_reducible apply wpList_loadAll HO); exact rfl; exact rfl; (repeat (with_reducible (first | exact At.head _ | apply At.tail))); infer_instance; exact rfl; exact rfl; (simp only [Act.put, List.setIfInBounds_toArray, List.set_cons_succ, List.set_cons_zero])) | ((with_reducible apply wpList_loadOne HO); exact rfl; exact rfl; (repeat (with_reducible (first | exact At.head _ | apply At.tail))); exact rfl; infer_instance; exact rfl; (simp only [Act.put, List.setIfInBounds_toArray, List.set_cons_succ, List.set_cons_zero]))) | (go_at_call 20; go_must ((with_reducible refine (CF (ownRows HO (.head _)) HO.grown).mono ?_); rintro e w ⟨rfl, hb⟩; replace HO := HO.call hb; clear hb)))
        clear CF
        go_loopw [9] (fun i wr => ∃ j : Nat, j ≤ rs.length ∧ i = .int .i64 (j : Int) ∧ Own W wr []) (fun i _ => rs.length - (intOf i).toNat)
        case atStart => exact ⟨0, by omega, rfl, HO.sub (List.nil_sublist _)⟩
        case round =>
          clear HO
          obtain ⟨i, hi, rfl, HO⟩ := hrel
          by_cases hin : i < rs.length
          · have hiI : (i : Int) < (rs.length : Int) := by omega
            have hiI1 : (i : Int) + 1 ≤ (rs.length : Int) := by omega
            obtain ⟨a, cap, h, hcp, _, hRA⟩ := HH.out.at (by omega)
            cases h
            obtain ⟨i1, hi1⟩ : ∃ i1, i1 = i + 1 := ⟨_, rfl⟩
            have e1 : IntKind.i64.wrap ((i : Int) + 1) = (i1 : Int) := by rw [hi1, ← Int.natCast_succ]; exact wrap_n _ (by omega)
            have hcp1 : (i1 : Int) ≤ (sc : Int) := by omega
            have hcp2 : (rs.length : Int) ≤ (sc : Int) := by omega
            have hcp3 : (i : Int) ≤ (rs.length : Int) := by omega
            have hcp4 : ¬ sc = i := by omega
            have hi1n : i1 ≤ rs.length := by omega
            have HI1 := Lib.hid hi1
            clear hi1
            have HA := Lib.hid (lAt_of_rows hRA)
            have HC := Lib.hid (hRA.c0 i hin)
            have HCB := Lib.hid (show (a.add (i * 5)).block < W.heap.size from hRA.lt' _)
            have hKT := chkRows_two (p := party) hin
            have CT := fun {w : World} {v : Value} (h : IsRows w v (rs.take (i + 1) ++ rs.drop i)) (hb : Below W.heap.size W w) => rowsCheck_any party h (hLW w hb)
            rw [hKT] at CT
            have HE1 := Lib.hid (show (([] ++ ((rs.map rowC).drop 0).take i1) ++ ((rs.map rowC).drop i).take (rs.length - i)) = (rs.take (i + 1) ++ rs.drop i).map rowC by
              rw [HI1.out, List.take_of_length_le (l := (rs.map rowC).drop i) (by simp)]
              simp [List.map_take, List.map_drop])
            obtain ⟨hz1, hz2, hz3⟩ := netOf_bound rs[i].o HK.out
            have NT := N rs[i].o
            generalize netOf rs rs[i].o = z at *
            have hd1 : decide ((1099511627776 : Int) < z) = false := by simp; omega
            have hd2 : decide (z < -1099511627776) = false := by simp; omega
            clear hz1 hz2 hKT hRA
            replace HO := HO.nil 46 5
            go_wp2_with fail
            refine region_sched2 ([]) [(0, true), (1, true), (2, true), (3, true), (5, true), (6, true), (7, true), (4, false), (8, false), (9, true)] HO (by with_reducible (repeat (first | exact List.nil_sublist _ | apply List.Sublist.cons_cons | apply List.Sublist.cons))) (by kernel_rfl) (by kernel_rfl) ?_
            clear HO
            intro w HO
            repeat (first | ((with_reducible apply wpSched_pure); exact rfl; exact rfl; (intro w'; go_simp; try with_reducible rfl); (simp only [Act.put, List.setIfInBounds_toArray, List.set_cons_succ, List.set_cons_zero])))
            ((with_reducible apply wpSched_loud); exact rfl; ((with_reducible apply wpList_appendOld (lo := 0) (m := i1) (a0 := a) HO); exact rfl; infer_instance; infer_instance; (first | (simp [Act.eval]; rfl) | exact rfl); exact rfl; exact (by simp [Addr.add]); exact (HA).out; exact rowC_len _; exact (by rw [List.length_map]; omega); exact rowC_one _; intro _; (repeat (with_reducible (first | exact At.head _ | apply At.tail))); (simp; omega); decide; exact rfl; clear HO; intro v2 w HO hv2; (simp only [Act.put, List.setIfInBounds_toArray, List.set_cons_succ, List.set_cons_zero])))
            refine wpList_nil (thenQ_keep (HO.held (by with_reducible (repeat (first | exact List.nil_sublist _ | apply List.Sublist.cons_cons | apply List.Sublist.cons)))) ?_)
            ((with_reducible apply wpSched_loud); exact rfl; ((with_reducible apply wpList_appendOld (lo := i) (m := rs.length - i) (a0 := a) HO); exact rfl; infer_instance; infer_instance; (first | (simp [Act.eval]; rfl) | exact rfl); exact rfl; exact (rfl); exact (HA).out; exact rowC_len _; exact (by rw [List.length_map]; omega); exact rowC_one _; intro _; (repeat (with_reducible (first | exact At.head _ | apply At.tail))); (simp; omega); decide; exact rfl; clear HO; intro v2 w HO hv2; (simp only [Act.put, List.setIfInBounds_toArray, List.set_cons_succ, List.set_cons_zero])))
            refine wpList_nil (thenQ_keep (HO.held (by with_reducible (repeat (first | exact List.nil_sublist _ | apply List.Sublist.cons_cons | apply List.Sublist.cons)))) ?_)
            ((with_reducible apply wpSched_pure); exact rfl; exact rfl; (intro w'; go_simp; try with_reducible rfl); (simp only [Act.put, List.setIfInBounds_toArray, List.set_cons_succ, List.set_cons_zero]))
            refine wpSched_end ?_
            rw [HE1.out] at HO
            obtain ⟨p3, n3, c3, rfl⟩ := hv2
            have hpz : party = 0 ∨ (party ≠ 0 ∧ z = 0) := by
              by_cases hp : party = 0
              · exact .inl hp
              · exact .inr ⟨hp, hz3 hp⟩
            clear hz3
            by_cases hi0 : i = 0
            · have hg0 : ¬ (0 : Int) < (i : Int) := by omega
              clear hi0
              rcases hpz with rfl | ⟨hp, rfl⟩
              · go_wp2_with (first | (first | go_big_skip | ((with_reducible apply wpList_loadAll HO); exact rfl; exact rfl; (repeat (with_reducible (first | exact At.head _ | apply At.tail))); infer_instance; exact rfl; exact rfl; (simp only [Act.put, List.setIfInBounds_toArray, List.set_cons_succ, List.set_cons_zero])) | ((with_reducible apply wpList_loadOne HO); exact rfl; exact rfl; (repeat (with_reducible (first | exact At.head _ | apply At.tail))); exact rfl; infer_instance; exact rfl; (simp only [Act.put, List.setIfInBounds_toArray, List.set_cons_succ, List.set_cons_zero]))) | ((with_reducible apply wpList_loadOld1 HO); exact rfl; exact rfl; exact HCB.out; exact HC.out; infer_instance; exact rfl; (simp only [Act.put, List.setIfInBounds_toArray, List.set_cons_succ, List.set_cons_zero])) | (go_at_call 20; go_must ((with_reducible refine (CT (ownRows HO (.head _)) HO.grown).mono ?_); rintro e w ⟨rfl, hb⟩; replace HO := HO.call hb; clear hb)) | (go_at_call 26; go_must ((with_reducible refine (NT _ HO.grown).mono ?_); rintro e w ⟨rfl, hb⟩; replace HO := HO.call hb; clear hb)))
                exact ⟨⟨i1, hi1n, rfl, HO.sub (List.nil_sublist _)⟩, by have := HI1.out; simp [intOf]; omega⟩
              · have hp0 : (party != 0) = true := by simpa using hp
                go_wp2_with (first | (first | go_big_skip | ((with_reducible apply wpList_loadAll HO); exact rfl; exact rfl; (repeat (with_reducible (first | exact At.head _ | apply At.tail))); infer_instance; exact rfl; exact rfl; (simp only [Act.put, List.setIfInBounds_toArray, List.set_cons_succ, List.set_cons_zero])) | ((with_reducible apply wpList_loadOne HO); exact rfl; exact rfl; (repeat (with_reducible (first | exact At.head _ | apply At.tail))); exact rfl; infer_instance; exact rfl; (simp only [Act.put, List.setIfInBounds_toArray, List.set_cons_succ, List.set_cons_zero]))) | ((with_reducible apply wpList_loadOld1 HO); exact rfl; exact rfl; exact HCB.out; exact HC.out; infer_instance; exact rfl; (simp only [Act.put, List.setIfInBounds_toArray, List.set_cons_succ, List.set_cons_zero])) | (go_at_call 20; go_must ((with_reducible refine (CT (ownRows HO (.head _)) HO.grown).mono ?_); rintro e w ⟨rfl, hb⟩; replace HO := HO.call hb; clear hb)) | (go_at_call 26; go_must ((with_reducible refine (NT _ HO.grown).mono ?_); rintro e w ⟨rfl, hb⟩; replace HO := HO.call hb; clear hb)))
                exact ⟨⟨i1, hi1n, rfl, HO.sub (List.nil_sublist _)⟩, by have := HI1.out; simp [intOf]; omega⟩
            · have hg0 : (0 : Int) < (i : Int) := by omega
              obtain ⟨k, hk⟩ : ∃ k, i = k + 1 := ⟨i - 1, by omega⟩
              have e2 : IntKind.i64.wrap ((i : Int) - 1) = (k : Int) := by rw [show (i : Int) - 1 = (k : Int) by omega]; exact wrap_n _ (by omega)
              have hkn : k < rs.length := by omega
              have hkI : (k : Int) < (rs.length : Int) := by omega
              have hKU := chkRows_turn (show k + 1 < rs.length by omega) HK.out
              have hKU2 : chkRows ((rs.set i (rs[k]'hkn)).set k (rs[i]'hin)) party = false := by subst hk; exact hKU
              have CU := fun {w : World} {v : Value} (h : IsRows w v ((rs.set i (rs[k]'hkn)).set k (rs[i]'hin))) (hb : Below W.heap.size W w) => rowsCheck_any party h (hLW w hb)
              rw [hKU2] at CU
              have HE2 := Lib.hid (show ([] ++ ((rs.map rowC).drop 0).take rs.length) = rs.map rowC by simp [List.take_of_length_le])
              have HE3 := Lib.hid (show ((rs.map rowC).set i (rowC (rs[k]'hkn))).set k (rowC (rs[i]'hin)) = ((rs.set i (rs[k]'hkn)).set k (rs[i]'hin)).map rowC by rw [List.map_set, List.map_set])
              have HGK := Lib.hid (show (rs.map rowC)[k]? = some (rowC (rs[k]'hkn)) by rw [List.getElem?_map, List.getElem?_eq_getElem hkn]; rfl)
              have HGI := Lib.hid (show (rs.map rowC)[i]? = some (rowC (rs[i]'hin)) by rw [List.getElem?_map, List.getElem?_eq_getElem hin]; rfl)
              clear hKU hKU2 hk hi0
              generalize rs[k]'hkn = rk at *
              generalize rs[i]'hin = ri at *
              replace HO := HO.nil 46 5
              go_wp2_with (first | (first | go_big_skip | ((with_reducible apply wpList_loadAll HO); exact rfl; exact rfl; (repeat (with_reducible (first | exact At.head _ | apply At.tail))); infer_instance; exact rfl; exact rfl; (simp only [Act.put, List.setIfInBounds_toArray, List.set_cons_succ, List.set_cons_zero])) | ((with_reducible apply wpList_loadOne HO); exact rfl; exact rfl; (repeat (with_reducible (first | exact At.head _ | apply At.tail))); exact rfl; infer_instance; exact rfl; (simp only [Act.put, List.setIfInBounds_toArray, List.set_cons_succ, List.set_cons_zero]))) | ((with_reducible apply wpList_appendOld (lo := 0) (m := rs.length) (a0 := a) HO); exact rfl; infer_instance; infer_instance; (first | (simp [Act.eval]; rfl) | exact rfl); exact rfl; exact (by simp [Addr.add]); exact (HA).out; exact rowC_len _; exact (by rw [List.length_map]; omega); exact rowC_one _; intro _; (repeat (with_reducible (first | exact At.head _ | apply At.tail))); (simp; omega); decide; exact rfl; clear HO; intro v2 w HO hv2; (simp only [Act.put, List.setIfInBounds_toArray, List.set_cons_succ, List.set_cons_zero])) | (go_at_call 20; go_must ((with_reducible refine (CT (ownRows HO (.tail _ _ _ (.head _))) HO.grown).mono ?_); rintro e w ⟨rfl, hb⟩; replace HO := HO.call hb; clear hb)))
              rw [HE2.out] at HO
              obtain ⟨q, c, hq⟩ := (HO.rowForm (.head _)).2 (by rw [List.length_map]; omega)
              rw [List.length_map] at hq
              subst hq
              clear hv2
              refine region_sched2 ([row 46 5 (.slice (some q) rs.length c) (rs.map rowC)]) [(0, true), (1, true), (2, true), (3, true), (4, true), (5, true), (6, true), (7, true), (8, true), (9, true), (10, true), (11, true), (12, true), (13, true), (14, true), (15, false), (16, true), (17, false)] HO (by with_reducible (repeat (first | exact List.nil_sublist _ | apply List.Sublist.cons_cons | apply List.Sublist.cons))) (by kernel_rfl) (by kernel_rfl) ?_
              clear HO
              intro w HO
              repeat (first | ((with_reducible apply wpSched_loadAt); exact rfl; exact rfl; exact rfl; exact (fun w' hw => hw.rowAt (by (repeat (with_reducible (first | exact At.head _ | apply At.tail)))) (rowC_len rs) HGK.out); infer_instance; exact rfl; exact rfl; (simp only [Act.put, List.setIfInBounds_toArray, List.set_cons_succ, List.set_cons_zero])) | ((with_reducible apply wpSched_loadAt); exact rfl; exact rfl; exact rfl; exact (fun w' hw => hw.rowAt (by (repeat (with_reducible (first | exact At.head _ | apply At.tail)))) (rowC_len rs) HGI.out); infer_instance; exact rfl; exact rfl; (simp only [Act.put, List.setIfInBounds_toArray, List.set_cons_succ, List.set_cons_zero])) | ((with_reducible apply wpSched_pure); exact rfl; exact rfl; (intro w'; go_simp; try with_reducible rfl); (simp only [Act.put, List.setIfInBounds_toArray, List.set_cons_succ, List.set_cons_zero])))
              ((with_reducible apply wpSched_loud); exact rfl; ((with_reducible apply wpList_storeRow HO); exact rfl; exact rfl; (first | (simp [Act.eval]; rfl) | exact rfl); exact rfl; (repeat (with_reducible (first | exact At.head _ | apply At.tail))); exact (rowC_len _); (simp; omega); exact rfl; infer_instance; exact rfl; exact rfl; clear HO; intro w HO; (simp only [Act.put])))
              refine wpList_nil (thenQ_free (by kernel_rfl) ?_)
              ((with_reducible apply wpSched_pure); exact rfl; exact rfl; (intro w'; go_simp; try with_reducible rfl); (simp only [Act.put, List.setIfInBounds_toArray, List.set_cons_succ, List.set_cons_zero]))
              ((with_reducible apply wpSched_loud); exact rfl; ((with_reducible apply wpList_storeRow HO); exact rfl; exact rfl; (first | (simp [Act.eval]; rfl) | exact rfl); exact rfl; (repeat (with_reducible (first | exact At.head _ | apply At.tail))); exact (rowC_set rs i rk); (simp; omega); exact rfl; infer_instance; exact rfl; exact rfl; clear HO; intro w HO; (simp only [Act.put])))
              refine wpList_nil (thenQ_free (by kernel_rfl) ?_)
              refine wpSched_end ?_
              rw [HE3.out] at HO
              rcases hpz with rfl | ⟨hp, rfl⟩
              · go_wp2_with (first | (first | go_big_skip | ((with_reducible apply wpList_loadAll HO); exact rfl; exact rfl; (repeat (with_reducible (first | exact At.head _ | apply At.tail))); infer_instance; exact rfl; exact rfl; (simp only [Act.put, List.setIfInBounds_toArray, List.set_cons_succ, List.set_cons_zero])) | ((with_reducible apply wpList_loadOne HO); exact rfl; exact rfl; (repeat (with_reducible (first | exact At.head _ | apply At.tail))); exact rfl; infer_instance; exact rfl; (simp only [Act.put, List.setIfInBounds_toArray, List.set_cons_succ, List.set_cons_zero]))) | ((with_reducible apply wpList_loadOld1 HO); exact rfl; exact rfl; exact HCB.out; exact HC.out; infer_instance; exact rfl; (simp only [Act.put, List.setIfInBounds_toArray, List.set_cons_succ, List.set_cons_zero])) | (go_at_call 20; go_must ((with_reducible refine (CU (ownRows HO (.head _)) HO.grown).mono ?_); rintro e w ⟨rfl, hb⟩; replace HO := HO.call hb; clear hb)) | (go_at_call 26; go_must ((with_reducible refine (NT _ HO.grown).mono ?_); rintro e w ⟨rfl, hb⟩; replace HO := HO.call hb; clear hb)))
                exact ⟨⟨i1, hi1n, rfl, HO.sub (List.nil_sublist _)⟩, by have := HI1.out; simp [intOf]; omega⟩
              · have hp0 : (party != 0) = true := by simpa using hp
                go_wp2_with (first | (first | go_big_skip | ((with_reducible apply wpList_loadAll HO); exact rfl; exact rfl; (repeat (with_reducible (first | exact At.head _ | apply At.tail))); infer_instance; exact rfl; exact rfl; (simp only [Act.put, List.setIfInBounds_toArray, List.set_cons_succ, List.set_cons_zero])) | ((with_reducible apply wpList_loadOne HO); exact rfl; exact rfl; (repeat (with_reducible (first | exact At.head _ | apply At.tail))); exact rfl; infer_instance; exact rfl; (simp only [Act.put, List.setIfInBounds_toArray, List.set_cons_succ, List.set_cons_zero]))) | ((with_reducible apply wpList_loadOld1 HO); exact rfl; exact rfl; exact HCB.out; exact HC.out; infer_instance; exact rfl; (simp only [Act.put, List.setIfInBounds_toArray, List.set_cons_succ, List.set_cons_zero])) | (go_at_call 20; go_must ((with_reducible refine (CU (ownRows HO (.head _)) HO.grown).mono ?_); rintro e w ⟨rfl, hb⟩; replace HO := HO.call hb; clear hb)) | (go_at_call 26; go_must ((with_reducible refine (NT _ HO.grown).mono ?_); rintro e w ⟨rfl, hb⟩; replace HO := HO.call hb; clear hb)))
                exact ⟨⟨i1, hi1n, rfl, HO.sub (List.nil_sublist _)⟩, by have := HI1.out; simp [intOf]; omega⟩
          · obtain rfl : i = rs.length := by omega
            go_wp2_with (first | (first | go_big_skip | ((with_reducible apply wpList_loadAll HO); exact rfl; exact rfl; (repeat (with_reducible (first | exact At.head _ | apply At.tail))); infer_instance; exact rfl; exact rfl; (simp only [Act.put, List.setIfInBounds_toArray, List.set_cons_succ, List.set_cons_zero])) | ((with_reducible apply wpList_loadOne HO); exact rfl; exact rfl; (repeat (with_reducible (first | exact At.head _ | apply At.tail))); exact rfl; infer_instance; exact rfl; (simp only [Act.put, List.setIfInBounds_toArray, List.set_cons_succ, List.set_cons_zero]))) | (go_at_call 19; go_must ((with_reducible refine (O _ HO.grown).mono ?_); rintro e w ⟨rfl, hb⟩; replace HO := HO.call hb; clear hb)))
            go_ret
            exact ⟨rfl, HO.grown⟩
end Go.Proofs.YtkgjcbkmdpndhaaDoor

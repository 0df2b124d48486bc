/-
  The law RepairTell returns true, by walking its text; conditions: the sagas and keys lie in memory, the table of parties as laid.
-/
import Derived.Test.YtlfphfklcifgpaaDoorPlanned
import Derived.Test.YtlfphfklcifgpaaDoorSettled
import Derived.Test.YtlfphfklcifgpaaDoorOwn2
import Derived.Test.YtlfphfklcifgpaaDoorTypes
namespace Go.Proofs.YtlfphfklcifgpaaDoor
open Go.RowKit Go.Own

theorem row_isL {W w : World} {L L' : List Ent} {t k : Nat} {v : Value} {A : List (List Value)} (h : Own W w L) (hat : At (row t k v A) (row t k v A) L L') (hA : ∀ l ∈ A, l.length = k) : IsL w k v A := isL_of_owns hA (h.has _ hat.mem)
theorem isl_isL {W w : World} {L L' : List Ent} {k : Nat} {v : Value} {A : List (List Value)} (h : Own W w L) (hat : At (isl k v A) (isl k v A) L L') : IsL w k v A := h.has _ hat.mem
theorem sLen (L : List (OrdS × D6)) : ∀ l ∈ L.map sagaL, l.length = 12 := fun l hl => by obtain ⟨x, _, rfl⟩ := List.mem_map.1 hl; rfl

set_option maxHeartbeats 16000000 in
set_option maxRecDepth 100000 in
theorem repairTell_any {L : List (OrdS × D6)} {K : List (Int × Int)} {W : World} {v u : Value} (party : Int) (hS : IsL W 12 v (L.map sagaL)) (hK : IsL W 2 u (K.map keyL)) (hL : Laid W)
    (hwL : ∀ x ∈ L, (Lit.int .i64 x.1.id).wf = true) (hwK : ∀ k ∈ K, (Lit.int .i64 k.1).wf = true) :
    Calls Tryd.prog 6 #[v, .int .i64 party, u] W fun e w' => e = .returned (.bool true) ∧ Below W.heap.size W w' := by
  have hpos : 0 < W.heap.size := hL.1
  have HL := Lib.hid hL
  clear hL
  obtain ⟨sp, sc, rfl, hmx⟩ := hS.slice
  obtain ⟨sp', sc', rfl, hmx'⟩ := hK.slice
  rw [List.length_map] at hmx hmx' hS hK ⊢
  rw [List.length_map]
  have hm1 : (L.length : Int) ≤ 9223372036854775807 := by unfold maxLen at hmx; omega
  have hm2 : (K.length : Int) ≤ 9223372036854775807 := by unfold maxLen at hmx'; omega
  by_cases hA : L.length ≤ 30 ∧ K.length ≤ 30
  rotate_left
  · have hcs : (¬ L.length ≤ 30) ∨ (L.length ≤ 30 ∧ ¬ K.length ≤ 30) := by omega
    clear hA
    rcases hcs with h | ⟨h, h'⟩
    · have d1 : decide ((30 : Int) < (L.length : Int)) = true := by simp; omega
      clear h
      go_enter Tryd.func6, Tryd.ntmps6
      have HO := Own.start W
      go_wp2_with (go_at_call 24; go_must (refine (planned_any _ (HL.out.below HO.grown hpos)).mono ?_; rintro e w ⟨rfl, hb⟩; replace HO := HO.call hb; clear hb))
      go_ret
      exact ⟨rfl, HO.grown⟩
    · have d1 : decide ((30 : Int) < (L.length : Int)) = false := by simp; omega
      have d2 : decide ((30 : Int) < (K.length : Int)) = true := by simp; omega
      clear h h'
      go_enter Tryd.func6, Tryd.ntmps6
      have HO := Own.start W
      go_wp2_with (go_at_call 24; go_must (refine (planned_any _ (HL.out.below HO.grown hpos)).mono ?_; rintro e w ⟨rfl, hb⟩; replace HO := HO.call hb; clear hb))
      go_ret
      exact ⟨rfl, HO.grown⟩
  obtain ⟨hl1, hl2⟩ := hA
  have d1 : decide ((30 : Int) < (L.length : Int)) = false := by simp; omega
  have d2 : decide ((30 : Int) < (K.length : Int)) = false := by simp; omega
  have HS := Lib.hid hS
  have HK := Lib.hid hK
  have HSB := Lib.hid (fun w (hb : Below W.heap.size W w) => hS.below hb hS.lt)
  have HKB := Lib.hid (fun w (hb : Below W.heap.size W w) => hK.below hb hK.lt)
  have HWL := Lib.hid hwL
  have HWK := Lib.hid hwK
  clear hS hK hwL hwK
  go_enter Tryd.func6, Tryd.ntmps6
  have HO := (Own.start W).nil 63 12
  go_wp2_with fail
  go_loopw [7, 8] (fun m i wr => ∃ j : Nat, j ≤ L.length ∧ i = .int .i64 (j : Int) ∧ Own W wr [row 63 12 m ((L.take j).map sagaL)]) (fun _ i _ => L.length - (intOf i).toNat)
  case atStart => exact ⟨0, by omega, rfl, HO⟩
  case round =>
    clear HO
    obtain ⟨j, hj, rfl, HO⟩ := hrel
    by_cases hjl : j < L.length
    · have hjI : (j : Int) < (L.length : Int) := by omega
      obtain ⟨a, cap, h, _, _, hR⟩ := HS.out.at (by simp; omega)
      rw [List.length_map] at h
      cases h
      have HC := Lib.hid (show ∀ jj x, (sagaL L[j])[jj]? = some x → W.cell? ((a.add (j * 12)).add jj) = some x from fun jj x hx => hR.c j (by simpa using hjl) jj x (by simpa using hx))
      have HCB := Lib.hid (show (a.add (j * 12)).block < W.heap.size from hR.lt' _)
      have HX := Lib.hid (show (L.take (j + 1)).map sagaL = (L.take j).map sagaL ++ [sagaL L[j]] by rw [List.take_succ_eq_append_getElem hjl, List.map_append]; rfl)
      have hA1 : (L.take j).length + 1 ≤ 1000000 := by rw [List.length_take]; omega
      clear hR
      generalize L[j] = x at *
      generalize hA : (L.take j).map sagaL = A at *
      rw [show (L.take j).length = A.length by rw [← hA, List.length_map]] at hA1
      clear hA
      obtain ⟨p, c, rfl⟩ := (HO.rowForm (.head _)).1
      go_wp2_with (first | ((with_reducible apply wpList_loadOld HO); exact rfl; exact rfl; exact HCB.out; exact HC.out; infer_instance; exact rfl; (simp only [Act.put, List.setIfInBounds_toArray, List.set_cons_succ, List.set_cons_zero])) | (first | ((with_reducible apply wpList_lit1 HO); exact rfl; infer_instance; infer_instance; exact rfl; exact rfl; exact (by decide); exact rfl; clear HO; intro b1 w HO; (simp only [Act.put, List.setIfInBounds_toArray, List.set_cons_succ, List.set_cons_zero])) | ((with_reducible apply wpList_lit1c HO); exact rfl; infer_instance; infer_instance; (first | (simp [Act.eval]; rfl) | exact rfl); exact rfl; exact rfl; clear HO; intro b1 w HO; (simp only [Act.put, List.setIfInBounds_toArray, List.set_cons_succ, List.set_cons_zero]))) | ((with_reducible apply wpList_push1 HO); exact rfl; infer_instance; infer_instance; (first | (simp [Act.eval]; rfl) | exact rfl); exact rfl; intro _; (repeat (with_reducible (first | exact At.head _ | apply At.tail))); exact rfl; exact rfl; (first | omega | (simp; omega)); decide; exact rfl; clear HO; intro v2 w HO hv2; (simp only [Act.put, List.setIfInBounds_toArray, List.set_cons_succ, List.set_cons_zero])))
      go_roundw
      case rel => exact ⟨j + 1, by omega, by go_num, by rw [HX.out]; exact HO⟩
      case measure => simp [intOf] <;> omega
    · obtain rfl : j = L.length := by omega
      rw [List.take_length] at HO
      have HR := Lib.hid (sLen L)
      obtain ⟨p, c, rfl⟩ := (HO.rowForm (.head _)).1
      rw [List.length_map] at HO ⊢
      go_wp2_with fail
      have HR2 := Lib.hid (fun w (X : List Ent) (hat : At (row 63 12 (.slice p L.length c) (L.map sagaL)) (row 63 12 (.slice p L.length c) (L.map sagaL)) X X) (h : Own W w X) => row_isL h hat HR.out)
      go_loopw [9] (fun i wr => ∃ q : Int, -1 ≤ q ∧ q ≤ 4 ∧ i = .int .i64 q ∧ Own W wr [row 63 12 (.slice p L.length c) (L.map sagaL)]) (fun i _ => (4 - intOf i).toNat)
      case atStart => exact ⟨-1, by omega, by omega, rfl, HO⟩
      case round =>
        clear HO
        obtain ⟨q, hq0, hq1, rfl, HO⟩ := hrel
        by_cases hq4 : q < 4
        · by_cases hqn : q < 0
          all_goals
            go_wp2_with (first | (go_at_call 26; go_must (refine (plan_any _ (L := L) (HSB.out _ HO.grown) (HL.out.below HO.grown hpos) (by omega)).mono ?_; rintro e w ⟨va, rfl, hI, hb, hf⟩; replace HO := HO.got hb hI hf; clear hb hI hf)) | (go_at_call 27; go_must (refine (refPlan_any _ (L := L) (HR2.out _ _ (.tail _ _ _ (.head _)) HO) (by omega)).mono ?_; rintro e w ⟨vb, rfl, hI, hb, hf⟩; replace HO := HO.got hb hI hf; clear hb hI hf)) | (go_at_call 25; go_must (refine (keysEq_any (isl_isL HO (.tail _ _ _ (.head _))) (isl_isL HO (.head _))).mono ?_; rintro e w ⟨rfl, hb⟩; replace HO := HO.call hb; clear hb)))
            go_roundw
            case rel => exact ⟨q + 1, by omega, by omega, rfl, HO.tail.tail⟩
            case measure => simp [intOf] <;> omega
        · clear hq0 hq1
          go_wp2_with (first | (go_at_call 28; go_must (refine (settled_any (L := L) (K := K) (HSB.out _ HO.grown) (HKB.out _ HO.grown) (by omega) (by omega) HWK.out HWL.out).mono ?_; rintro e w ⟨va, rfl, hI, hb, hf⟩; replace HO := HO.got hb hI hf; clear hb hI hf; obtain ⟨p1, c1, h⟩ := (HO.islForm (.head _)).1; rw [List.length_map] at h; subst h)) | (go_at_call 29; go_must (refine (refSettled_any (L := L) (K := K) (HR2.out _ _ (.tail _ _ _ (.head _)) HO) (HKB.out _ HO.grown) (by omega) (by omega)).mono ?_; rintro e w ⟨vb, rfl, hI, hb, hf⟩; replace HO := HO.got hb hI hf; clear hb hI hf; obtain ⟨p2, c2, h⟩ := (HO.islForm (.head _)).1; rw [List.length_map] at h; subst h)))
          have hSL := settledOf_len L K
          generalize settledOf L K = S at *
          obtain ⟨N, hN⟩ : ∃ N : Nat, N = S.length := ⟨_, rfl⟩
          rw [← hN] at HO ⊢
          have hNb : (N : Int) ≤ 30 := by omega
          have HN := Lib.hid hN
          clear hN
          go_loopw [13] (fun i wr => ∃ j : Nat, j ≤ N ∧ i = .int .i64 (j : Int) ∧ Own W wr [isl 1 (.slice p2 N c2) (S.map intL), isl 1 (.slice p1 N c1) (S.map intL)]) (fun i _ => N - (intOf i).toNat)
          case atStart => exact ⟨0, by omega, rfl, HO.sub (.cons_cons _ (.cons_cons _ (List.nil_sublist _)))⟩
          case round =>
            clear HO
            obtain ⟨j, hj, rfl, HO⟩ := hrel
            by_cases hjN : j < N
            · have hjI : (j : Int) < (N : Int) := by omega
              have hjS : j < S.length := by rw [← HN.out]; exact hjN
              obtain ⟨q2, _, h⟩ := (HO.islForm (.head _)).2 (by rw [List.length_map]; omega)
              rw [List.length_map, ← HN.out] at h
              cases h
              obtain ⟨q1, _, h⟩ := (HO.islForm (.tail _ _ _ (.head _))).2 (by rw [List.length_map]; omega)
              rw [List.length_map, ← HN.out] at h
              cases h
              have HG : (S.map intL)[j]? = some [.int .i64 S[j]] := by rw [List.getElem?_map, List.getElem?_eq_getElem hjS]; rfl
              have HC1 := Lib.hid (fun w' (h : Own W w' [isl 1 (.slice (some q2) N c2) (S.map intL), isl 1 (.slice (some q1) N c1) (S.map intL)]) => (show w'.cell? (q1.add j) = some (.int .i64 S[j]) from by have := h.islAt (.tail _ _ _ (.head _)) HG 0 _ rfl; rwa [Nat.mul_one, add0] at this))
              have HC2 := Lib.hid (fun w' (h : Own W w' [isl 1 (.slice (some q2) N c2) (S.map intL), isl 1 (.slice (some q1) N c1) (S.map intL)]) => (show w'.cell? (q2.add j) = some (.int .i64 S[j]) from by have := h.islAt (.head _) HG 0 _ rfl; rwa [Nat.mul_one, add0] at this))
              clear HG
              generalize S[j] = x at *
              clear hjS
              go_wp2_with fail
              refine region_own HO (by kernel_rfl) (by kernel_rfl) ?_
              clear HO
              intro F HF
              repeat (first | (first | ((with_reducible apply wpQuiet_loadAt1 HF); exact rfl; exact rfl; exact (HC1.out); infer_instance; exact rfl; (simp only [Act.put, List.setIfInBounds_toArray, List.set_cons_succ, List.set_cons_zero])) | ((with_reducible apply wpQuiet_loadAt1 HF); exact rfl; exact rfl; exact (HC2.out); infer_instance; exact rfl; (simp only [Act.put, List.setIfInBounds_toArray, List.set_cons_succ, List.set_cons_zero]))) | go_big_quiet_step (fail))
              refine wpQuiet_nil ?_
              intro x
              have HO := HF.own x
              clear HF
              generalize F x = w at *
              clear x F
              go_wp2_with fail
              go_roundw
              case rel => exact ⟨j + 1, by omega, by go_num, HO⟩
              case measure => simp [intOf] <;> omega
            · obtain rfl : j = N := by omega
              go_wp2_with (go_at_call 24; go_must (refine (planned_any _ (HL.out.below HO.grown hpos)).mono ?_; rintro e w ⟨rfl, hb⟩; replace HO := HO.call hb; clear hb))
              go_ret
              exact ⟨rfl, HO.grown⟩
end Go.Proofs.YtlfphfklcifgpaaDoor

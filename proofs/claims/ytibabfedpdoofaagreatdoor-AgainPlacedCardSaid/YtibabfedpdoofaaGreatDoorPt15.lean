/-
  AgainPlaced, by walking the law's text; conditions: the entries lie in memory, the laid tables.
  From a walk of a law to its row: what every law shares, over any program; conditions: none.
  From a walk of a law to its row, where tables and the map of the deeds' words are laid; conditions: none.
  Entries that came in, opened; conditions: none.
-/
import Derived.Test.YtibabfedpdoofaaGreatDoorRows
import Derived.ProofKit
import Derived.OpenShut
import Derived.Deep.DeepHandedRow
import Derived.Lib.LaidTab
import Derived.Test.YtibabfedpdoofaaGreatDoorTie
import Derived.Test.YtibabfedpdoofaaGreatDoorCards
import Derived.SevenTiedAt
import Derived.WideKeyElems2
import Derived.Deep.Slices
import Derived.Test.YtibabfedpdoofaaGreatDoorPt1
import Derived.Test.YtibabfedpdoofaaGreatDoorPt9
import Derived.Test.YtibabfedpdoofaaGreatDoorPt10
import Derived.Test.YtibabfedpdoofaaGreatDoorPt11
import Derived.Test.YtibabfedpdoofaaGreatDoorPt14
namespace Go.Proofs.YtibabfedpdoofaaGreatDoor
open Go.RowKit Go.Own Go.Maps

theorem inForm_of {W w : World} {L : List Ent} {i : InA} {A : InS} (h : Own W w L) (hm : ∀ e ∈ inPs i A, e ∈ L) : (∃ p n c, i.v0 = .slice p n c) ∧ (∃ p n c, i.v1 = .slice p n c) ∧ (∃ p n c, i.v2 = .slice p n c) ∧ ∃ x, i.m = .map x := by
  have f : ∀ {v : Value} {B : List (List Value)}, IsL w 5 v B → ∃ p n c, v = .slice p n c := fun hI => by
    obtain ⟨p, c, hv, -⟩ := hI.slice
    exact ⟨_, _, _, hv⟩
  refine ⟨f (h.has _ (hm _ (.head _))), f (h.has _ (hm _ (.tail _ (.head _)))), f (h.has _ (hm _ (.tail _ (.tail _ (.head _))))), ?_⟩
  have h4 : MapIs i.m (allF A) w := h.has _ (hm _ (.tail _ (.tail _ (.tail _ (.head _)))))
  rcases h4 with h4 | ⟨b, n, h4, _⟩
  · exact ⟨none, h4.1⟩
  · exact ⟨some b, h4⟩

theorem place_perm (X C I M R : List Ent) : (X ++ (R ++ (C ++ (I ++ M)))).Perm (X ++ (I ++ (R ++ (C ++ M)))) := by
  refine List.Perm.append_left X ?_
  have h : ((R ++ C) ++ (I ++ M)).Perm (I ++ ((R ++ C) ++ M)) := List.perm_append_comm_assoc _ _ _
  simpa [List.append_assoc] using h

theorem place_front (X I R Z : List Ent) : (R ++ (X ++ (I ++ Z))).Perm (X ++ (I ++ (R ++ Z))) := by
  have h : ((X ++ I) ++ (R ++ Z)).Perm (R ++ ((X ++ I) ++ Z)) := List.perm_append_comm_assoc _ _ _
  simpa [List.append_assoc] using h.symm

set_option maxHeartbeats 32000000 in
set_option maxRecDepth 100000 in
theorem againPlaced_any {W : World} {v : Value} {es : List EntI} (h : IsEnts W v es) (hL : LaidE W) : Calls Tryz.prog 5 #[v] W fun e w' => e = .returned (.bool true) ∧ Below W.heap.size W w' := by
  have HO := Own.start W
  have AD := fun (w : World) (hb : Below W.heap.size W w) => tried_any w (hL.below hb)
  have GR := fun (w : World) (hb : Below W.heap.size W w) => great24_any 45 (h.below hb)
  by_cases hg : greatL es 45 = true
  · rw [hg] at GR
    clear h
    go_enter Tryz.func5, Tryz.ntmps5
    go_wp2_with (first | go_big_skip | (go_at_call 11; go_must ((with_reducible refine (GR _ HO.grown).mono ?_); rintro e w ⟨rfl, hb⟩; replace HO := HO.call hb; clear hb)) | (go_at_call 12; go_must ((with_reducible refine (AD _ HO.grown).mono ?_); rintro e w ⟨rfl, hb⟩; replace HO := HO.call hb; clear hb)))
    go_ret
    exact ⟨rfl, HO.grown⟩
  have hl45 : es.length ≤ 45 := by
    simp only [greatL, Bool.or_eq_true, decide_eq_true_eq, not_or] at hg
    omega
  rw [Bool.not_eq_true] at hg
  rw [hg] at GR
  have CR := Lib.hid (fun (w : World) (hO : Own W w []) => cored_any (G := []) hO (fun e he => he) (h.into []) hL (by omega))
  obtain ⟨o1, o2, -⟩ := coreOf_ok (es.map (·.x)) (es.map (·.x)).length (by simp)
  have ou := coreOf_uniq (es.map (·.x)) (es.map (·.x)).length (by simp)
  obtain ⟨-, -, oi⟩ := coreOf_ok (es.map (·.x)) (es.map (·.x)).length (by simp)
  rw [List.take_length] at o1 o2 ou oi
  rw [List.length_map] at o2
  clear h hg
  generalize (coreOf (es.map (·.x))).1 = S at *
  generalize (coreOf (es.map (·.x))).2 = A at *
  go_enter Tryz.func5, Tryz.ntmps5
  go_upto_region 4 with (first | go_big_skip | (go_at_call 11; go_must ((with_reducible refine (GR _ HO.grown).mono ?_); rintro e w ⟨rfl, hb⟩; replace HO := HO.call hb; clear hb)) | (go_at_call 14; go_must ((with_reducible refine (CR.out _ HO).mono ?_); clear CR HO; rintro e w ⟨a, i, x, N, rfl, HO, -⟩)))
  generalize rcB x A :: (N ++ []) = M at *
  have hl60 := o1.len
  have hord := o1.ord
  have hrf := refsOk_of hord
  have HF := Lib.hid (inForm_of HO (i := i) (A := A) (fun e he => List.mem_append_right _ (List.mem_append_left _ he)))
  have CA := Lib.hid (fun (w : World) (L : List Ent) (h : Own W w L) (hm : ∀ e ∈ coPs a S i A, e ∈ L) => (coAt_left' h hm : CoAt w a S i A))
  have OC := Lib.hid (fun (w : World) (h : CoAt w a S i A) => coOrders_any h)
  go_wp2_with (first | go_big_skip | (go_at_call 15; go_must ((with_reducible refine (OC.out _ (CA.out _ _ HO (fun e he => List.mem_append_left _ he))).mono ?_); rintro e w ⟨rfl, hb⟩; replace HO := HO.call hb; clear hb)))
  go_loopw [7] (fun nv wr => ∃ j : Nat, j ≤ S.L.length ∧ nv = .int .i64 ((j : Int) + 1) ∧ Own W wr (coPs a S i A ++ (inPs i A ++ M))) (fun nv _ => 62 - (intOf nv).toNat)
  case atStart => exact ⟨0, by omega, rfl, HO⟩
  case round =>
    clear HO
    obtain ⟨j, hj, rfl, HO⟩ := hrel
    by_cases hjl : j < S.L.length
    · have hjI : (j : Int) + 1 ≤ (S.L.length : Int) := by omega
      have hxi : inI ((j : Int) + 1) = true := inI_iff.2 (by omega)
      have CH := Lib.hid (fun (w : World) (h : CoAt w a S i A) => chain_any h hl60 hrf hxi)
      have NX := Lib.hid (fun (w : World) (h : CoAt w a S i A) => next_any h hl60 hrf hxi)
      have OR := Lib.hid (fun (w : World) (h : CoAt w a S i A) => (ordAt_yes (L := S.L) (id := (j : Int) + 1) rfl hjl) ▸ coOrder_any h hxi)
      have hmem := chain_own ou hjl
      have hcl := (chainL_in (L := S.L) (id := (j : Int) + 1)).1
      generalize chainL S.L ((j : Int) + 1) = ll at *
      replace hmem := Lib.hid hmem
      go_wp2_with (first | go_big_skip | (go_at_call 21; go_must ((with_reducible refine (CH.out _ (CA.out _ _ HO (fun e he => List.mem_append_left _ he))).mono ?_); rintro e w ⟨v8, rfl, HO1⟩; replace HO := HO.lift HO1; clear HO1; simp only [List.cons_append, List.nil_append] at HO; obtain ⟨⟨p8, c8, rfl⟩, -⟩ := HO.rowForm (v := v8) (.head _); rw [List.length_map] at HO ⊢)))
      go_loopw [9, 10] (fun bv kv wr => ∃ k : Nat, k ≤ ll.length ∧ kv = .int .i64 (k : Int) ∧ bv = .bool (decide (j + 1 ∈ ll.take k)) ∧ Own W wr (row 3 1 (.slice p8 ll.length c8) (ll.map intC) :: (coPs a S i A ++ (inPs i A ++ M)))) (fun _ kv _ => ll.length - (intOf kv).toNat)
      case atStart => exact ⟨0, by omega, rfl, by simp, HO⟩
      case round =>
        clear HO
        obtain ⟨k, hk, rfl, rfl, HO⟩ := hrel
        by_cases hkl : k < ll.length
        · have hkI : (k : Int) < (ll.length : Int) := by omega
          obtain ⟨q, rfl⟩ : ∃ q, p8 = some q := by
            obtain ⟨q, c', h⟩ := (HO.rowForm (v := .slice p8 ll.length c8) (.head _)).2 (by rw [List.length_map]; omega)
            rw [List.length_map] at h
            cases h
            exact ⟨q, rfl⟩
          have RW := Lib.hid (fun (w' : World) (h1 : Own W w' (row 3 1 (.slice (some q) ll.length c8) (ll.map intC) :: (coPs a S i A ++ (inPs i A ++ M)))) => show w'.cell? (q.add k) = some (.int .i64 (ll[k] : Int)) from by
            have h2 := isL_cell' (isL_of_owns (intC_len ll) (h1.has _ List.mem_cons_self)) (j := k) (by simpa using hkl) 0 (.int .i64 (ll[k] : Int)) (by simp [intC])
            rwa [Nat.mul_one, add0] at h2)
          have HT := Lib.hid (show decide (j + 1 ∈ ll.take (k + 1)) = (decide (j + 1 ∈ ll.take k) || decide (j + 1 = ll[k])) from by
            rw [List.take_succ_eq_append_getElem hkl]
            simp only [List.mem_append, List.mem_singleton]
            rw [Bool.decide_or])
          have hcb : ((ll[k] : Int) == (j : Int) + 1) = decide (j + 1 = ll[k]) := by
            rw [Bool.eq_iff_iff, beq_iff_eq, decide_eq_true_eq]
            omega
          generalize decide (j + 1 ∈ ll.take k) = b1 at *
          generalize decide (j + 1 = ll[k]) = b2 at *
          generalize ll[k] = n at *
          cases b1 with
          | true =>
            clear hcb
            go_wp2_with (first | go_big_skip | ((with_reducible apply wpList_loadAt1 HO); exact rfl; exact rfl; exact (fun w' h1 => RW.out w' h1); infer_instance; exact rfl; (simp only [Act.put, List.setIfInBounds_toArray, List.set_cons_succ, List.set_cons_zero])))
            go_roundw
            case rel => exact ⟨k + 1, by omega, by go_num, by rw [HT.out]; rfl, HO⟩
            case measure => simp [intOf] <;> omega
          | false =>
            cases b2 with
            | true =>
              go_wp2_with (first | go_big_skip | ((with_reducible apply wpList_loadAt1 HO); exact rfl; exact rfl; exact (fun w' h1 => RW.out w' h1); infer_instance; exact rfl; (simp only [Act.put, List.setIfInBounds_toArray, List.set_cons_succ, List.set_cons_zero])))
              go_roundw
              case rel => exact ⟨k + 1, by omega, by go_num, by rw [HT.out]; rfl, HO⟩
              case measure => simp [intOf] <;> omega
            | false =>
              go_wp2_with (first | go_big_skip | ((with_reducible apply wpList_loadAt1 HO); exact rfl; exact rfl; exact (fun w' h1 => RW.out w' h1); infer_instance; exact rfl; (simp only [Act.put, List.setIfInBounds_toArray, List.set_cons_succ, List.set_cons_zero])))
              go_roundw
              case rel => exact ⟨k + 1, by omega, by go_num, by rw [HT.out]; rfl, HO⟩
              case measure => simp [intOf] <;> omega
        · obtain rfl : k = ll.length := by omega
          rw [List.take_length]
          rw [decide_eq_true hmem.out]
          clear hkl hk hmem
          have HP := Lib.hid (fun h => next_places hord (id := (j : Int) + 1) h)
          have HA := Lib.hid (fun h => next_again (L := S.L) (id := (j : Int) + 1) h beginD)
          have HQ := Lib.hid (fun h => nextR_ok (L := S.L) (id := (j : Int) + 1) h)
          have hsk : S.L[j].1.sku.length ≤ 8 := (ordCheck_ok (hord _ (List.getElem_mem hjl))).2.2.2.2.2.2.2.2.2.1
          have hyx := ordAt_yes (L := S.L) (id := (j : Int) + 1) rfl hjl
          rw [hyx] at HQ
          generalize S.L[j] = y at *
          obtain ⟨o, s⟩ := y
          have ST := fun w => state_any o s w
          unfold sagaV at ST
          simp only [ordR, sagaV] at OR
          obtain ⟨nr, hnr⟩ : ∃ z, nextR S.L ((j : Int) + 1) = z := ⟨_, rfl⟩
          rw [hnr] at NX HP HA HQ
          obtain ⟨o2, e2⟩ := nr
          simp only [ordV] at NX
          go_upto_region 17 with (first | go_big_skip | (first | go_big_skip | ((with_reducible apply wpList_loadAll HO); exact rfl; exact rfl; (repeat (with_reducible (first | exact At.head _ | apply At.tail))); infer_instance; exact rfl; exact rfl; (simp only [Act.put, List.setIfInBounds_toArray, List.set_cons_succ, List.set_cons_zero])) | ((with_reducible apply wpList_loadOne HO); exact rfl; exact rfl; (repeat (with_reducible (first | exact At.head _ | apply At.tail))); exact rfl; infer_instance; exact rfl; (simp only [Act.put, List.setIfInBounds_toArray, List.set_cons_succ, List.set_cons_zero]))) | ((with_reducible apply wpList_storeAll HO); exact rfl; exact rfl; exact rfl; (repeat (with_reducible (first | exact At.head _ | apply At.tail))); infer_instance; exact rfl; exact rfl; exact rfl; exact rfl; clear HO; intro w HO; (simp only [Act.put])) | (first | ((with_reducible apply wpList_boxAgg _ HO rfl); exact rfl; exact rfl; exact rfl; clear HO; intro b11 w HO; (simp only [Act.put, List.setIfInBounds_toArray, List.set_cons_succ, List.set_cons_zero])) | ((with_reducible apply wpList_allocAgg _ HO rfl); exact rfl; infer_instance; exact rfl; clear HO; intro b11 w HO; (simp only [Act.put, List.setIfInBounds_toArray, List.set_cons_succ, List.set_cons_zero]))) | (go_at_call 16; go_must ((with_reducible refine (NX.out _ (CA.out _ _ HO (by intro e he; simp only [List.mem_cons, List.mem_append]; exact .inr (.inl he)))).mono ?_); rintro e w ⟨rfl, hb⟩; replace HO := HO.call hb; clear hb)))
          go_upto_region 20 with (first | go_big_skip | (first | go_big_skip | ((with_reducible apply wpList_loadAll HO); exact rfl; exact rfl; (repeat (with_reducible (first | exact At.head _ | apply At.tail))); infer_instance; exact rfl; exact rfl; (simp only [Act.put, List.setIfInBounds_toArray, List.set_cons_succ, List.set_cons_zero])) | ((with_reducible apply wpList_loadOne HO); exact rfl; exact rfl; (repeat (with_reducible (first | exact At.head _ | apply At.tail))); exact rfl; infer_instance; exact rfl; (simp only [Act.put, List.setIfInBounds_toArray, List.set_cons_succ, List.set_cons_zero]))) | ((with_reducible apply wpList_storeAll HO); exact rfl; exact rfl; exact rfl; (repeat (with_reducible (first | exact At.head _ | apply At.tail))); infer_instance; exact rfl; exact rfl; exact rfl; exact rfl; clear HO; intro w HO; (simp only [Act.put])) | (first | ((with_reducible apply wpList_boxAgg _ HO rfl); exact rfl; exact rfl; exact rfl; clear HO; intro b13 w HO; (simp only [Act.put, List.setIfInBounds_toArray, List.set_cons_succ, List.set_cons_zero])) | ((with_reducible apply wpList_allocAgg _ HO rfl); exact rfl; infer_instance; exact rfl; clear HO; intro b13 w HO; (simp only [Act.put, List.setIfInBounds_toArray, List.set_cons_succ, List.set_cons_zero]))) | (go_at_call 36; go_must ((with_reducible refine (OR.out _ (CA.out _ _ HO (by intro e he; simp only [List.mem_cons, List.mem_append]; exact .inr (.inr (.inl he))))).mono ?_); rintro e w ⟨rfl, hb⟩; replace HO := HO.call hb; clear hb)))
          by_cases he : e2 = 0
          rotate_left
          · have hd : (e2 != 0) = true := by rw [bne_iff_ne]; exact he
            clear he HP HA HQ
            go_wp2_with (first | go_big_skip)
            replace HO := HO.tail.tail.tail
            go_roundw
            case rel => exact ⟨j + 1, by omega, by go_num, HO⟩
            case measure => simp [intOf] <;> omega
          · subst he
            obtain ⟨x', hx', hst, ho2, -, hnl, -, hlt⟩ := HQ.out rfl
            cases hx'
            obtain ⟨-, hpl⟩ := HP.out rfl
            have hag := HA.out rfl
            simp only at ho2 hnl hst hpl hag hsk
            subst ho2
            clear HP HA HQ hnr hyx
            generalize nextRef o = nx at *
            obtain ⟨oid, oref, osku, oq, oa⟩ := o
            simp only at hpl hag hsk HO ST NX OR
            have hnil : ∀ w' : World, IsRows w' (.slice none 0 0) [] := fun w' => .none _ _ (fun _ => rfl)
            have HE : applyE S A ⟨1, (S.L.length : Int) + 1, nx, osku, oq, oa, 0, 0, 0, 0, 0, []⟩ = 0 := by unfold applyE; rw [if_pos rfl]; exact hpl
            have HSS : applyS S A ⟨1, (S.L.length : Int) + 1, nx, osku, oq, oa, 0, 0, 0, 0, 0, []⟩ = { S with L := S.L ++ [(⟨(S.L.length : Int) + 1, nx, osku, oq, oa⟩, beginD)] } := by
              unfold applyS
              rw [if_pos rfl]
              unfold placeL
              exact congrArg (fun l => ({ S with L := l } : CoS)) (if_pos hpl)
            have HAA : applyI A ⟨1, (S.L.length : Int) + 1, nx, osku, oq, oa, 0, 0, 0, 0, 0, []⟩ = A := by unfold applyI; rw [if_neg (by simp)]
            have AP := Lib.hid (fun (w : World) (a' : CoA) (M' : List Ent) (h : Own W w (coPs a' S i A ++ (inPs i A ++ M'))) => coApply_any (v := .slice none 0 0) ⟨1, (S.L.length : Int) + 1, nx, osku, oq, oa, 0, 0, 0, 0, 0, []⟩ h ⟨.old (hnil W) _, by unfold maxLen; simp only; omega, by unfold maxLen; simp only; omega, rfl⟩ oi o1 (by omega) hL)
            rw [HE, HSS, HAA] at AP
            have hL2 : (S.L ++ [((⟨(S.L.length : Int) + 1, nx, osku, oq, oa⟩ : OrdS), beginD)]).length ≤ 60 := by simp; omega
            have hr2 : refsOk (S.L ++ [((⟨(S.L.length : Int) + 1, nx, osku, oq, oa⟩ : OrdS), beginD)]) := fun x hx => by
              rcases List.mem_append.1 hx with hx | hx
              · exact hrf x hx
              · obtain rfl := List.mem_singleton.1 hx
                exact hnl
            have N2 := Lib.hid (fun (w : World) (a' : CoA) (h : CoAt w a' { S with L := S.L ++ [((⟨(S.L.length : Int) + 1, nx, osku, oq, oa⟩ : OrdS), beginD)] } i A) => next_any h hL2 hr2 hxi)
            simp only at N2
            generalize S.L ++ [((⟨(S.L.length : Int) + 1, nx, osku, oq, oa⟩ : OrdS), beginD)] = L2 at *
            obtain ⟨nr2, hnr2⟩ : ∃ z, nextR L2 ((j : Int) + 1) = z := ⟨_, rfl⟩
            rw [hnr2] at N2 hag
            obtain ⟨⟨z1, z2, z3, z4, z5⟩, z6⟩ := nr2
            simp only [ordV] at N2 hag
            subst hag
            clear hpl HE HSS HAA hL2 hr2 hnr2
            have CP := Lib.hid (fun (w : World) (h : CoAt w a S i A) => coCopy_any h HF.out (by omega) hl60)
            have e9 : IntKind.i64.wrap ((S.L.length : Int) + 1) = (S.L.length : Int) + 1 := wrap_in (inI_iff.2 (by omega))
            generalize stateOf s = ss at *
            rcases hst with rfl | rfl
            all_goals
              go_upto_region 22 with (first | go_big_skip | (go_at_call 37; go_must ((with_reducible refine (CP.out _ (CA.out _ _ HO (by intro e he; simp only [List.mem_cons, List.mem_append]; exact .inr (.inr (.inr (.inl he)))))).mono ?_); rintro e w ⟨a', rfl, HO1⟩; replace HO := HO.lift HO1; clear HO1)))
              replace HO := HO.perm ((place_perm (coPs a' S i A) (coPs a S i A) (inPs i A) M [_, _, _]).trans (place_front (coPs a' S i A) (inPs i A) [_, _, _] (coPs a S i A ++ M)).symm)
              simp only [List.cons_append, List.nil_append] at HO
              go_wp2_with (first | go_big_skip | (first | go_big_skip | ((with_reducible apply wpList_loadAll HO); exact rfl; exact rfl; (repeat (with_reducible (first | exact At.head _ | apply At.tail))); infer_instance; exact rfl; exact rfl; (simp only [Act.put, List.setIfInBounds_toArray, List.set_cons_succ, List.set_cons_zero])) | ((with_reducible apply wpList_loadOne HO); exact rfl; exact rfl; (repeat (with_reducible (first | exact At.head _ | apply At.tail))); exact rfl; infer_instance; exact rfl; (simp only [Act.put, List.setIfInBounds_toArray, List.set_cons_succ, List.set_cons_zero]))) | ((with_reducible apply wpList_storeAll HO); exact rfl; exact rfl; exact rfl; (repeat (with_reducible (first | exact At.head _ | apply At.tail))); infer_instance; exact rfl; exact rfl; exact rfl; exact rfl; clear HO; intro w HO; (simp only [Act.put])) | (first | ((with_reducible apply wpList_boxAgg _ HO rfl); exact rfl; exact rfl; exact rfl; clear HO; intro b17 w HO; (simp only [Act.put, List.setIfInBounds_toArray, List.set_cons_succ, List.set_cons_zero])) | ((with_reducible apply wpList_allocAgg _ HO rfl); exact rfl; infer_instance; exact rfl; clear HO; intro b17 w HO; (simp only [Act.put, List.setIfInBounds_toArray, List.set_cons_succ, List.set_cons_zero]))) | (go_at_call 38; go_must ((with_reducible refine (ST _).mono ?_); rintro e w ⟨rfl, hb⟩; replace HO := HO.call hb; clear hb)) | (go_at_call 27; go_must ((have HO1 := HO.perm (place_front (coPs a' S i A) (inPs i A) [_, _, _] (coPs a S i A ++ M))); (with_reducible refine (AP.out _ _ _ HO1).mono ?_); clear HO HO1; rintro e w ⟨rfl, u9, v9, i9, hi9, HO⟩; rw [hi9 (by decide)] at HO; clear hi9)) | (go_at_call 16; go_must ((with_reducible refine (N2.out _ { a' with u := u9, v := v9 } (coAt_left HO)).mono ?_); rintro e w ⟨rfl, hb⟩; replace HO := HO.call hb; clear hb)))
              replace HO := ((HO.tail.perm (place_perm _ (coPs a S i A) (inPs i A) M [_, _, _]).symm).sub (List.sublist_append_right _ _)).sub (List.sublist_append_right _ _)
              go_roundw
              case rel => exact ⟨j + 1, by omega, by go_num, HO⟩
              case measure => simp [intOf] <;> omega
    · obtain rfl : j = S.L.length := by omega
      have hjI : ¬ ((S.L.length : Int) + 1 ≤ (S.L.length : Int)) := by omega
      go_wp2_with (first | go_big_skip | (go_at_call 12; go_must ((with_reducible refine (AD _ HO.grown).mono ?_); rintro e w ⟨rfl, hb⟩; replace HO := HO.call hb; clear hb)))
      go_ret
      exact ⟨rfl, HO.grown⟩
end Go.Proofs.YtibabfedpdoofaaGreatDoor
namespace Go.Own
open Go.RowKit Go.ChangeShapes Go.WideShapes

theorem trodAll_below {H : Type} {enc : TypeId × Value → H} {P : Program} (hl : laidOutB P = true) {W W' : World} (hb : Below W.heap.size W W') :
    ∀ {ts : List TypeId} {vs : List Value} {ds : List (DataW H)} {ps : List MemPlace}, (∀ t ∈ ts, P.readableRec t = true ∧ t < P.types.size) → (∀ p ∈ ps, p.block < W.heap.size) →
      DataW.TrodAll enc P W 0 (fun _ => true) true ts vs ds ps → DataW.TrodAll enc P W' 0 (fun b => decide (b < W.heap.size)) true ts vs ds ps
  | [], _, _, _, _, _, h => by
    obtain ⟨rfl, rfl, rfl⟩ := trodAll_nil h
    exact trodAll_mk0
  | t :: ts, _, _, _, hr, hp, h => by
    obtain ⟨v, vs1, d, ds1, a, b, rfl, rfl, rfl, h1, h2⟩ := trodAll_cons h
    have ht := hr t List.mem_cons_self
    exact trodAll_cons_mk (Below.trod hl ht.1 ht.2 h1 hb (fun x hx => hp x (List.mem_append_left _ hx)))
      (trodAll_below hl hb (fun u hu => hr u (List.mem_cons_of_mem _ hu)) (fun x hx => hp x (List.mem_append_right _ hx)) h2)

/-- A law's post, from what the walk says: it returns true, and nothing that was there has changed. -/
theorem law_post {H : Type} {enc : TypeId × Value → H} {P : Program} {f : Func} {s : ChangeSpec} {W W' : World} {args : Array Value} {ds gs : List (DataW H)} {before : List MemPlace} {tb : TypeId}
    (hl : laidOutB P = true) (hrd : (f.params.toList.all fun t => P.readableRec t && decide (t < P.types.size)) = true) (hres : f.resultTypes = #[tb]) (htb : P.underlying tb = some .bool) (hvars : s.vars = [])
    (hW : DataW.Whole enc P f.params.toList s.vars false W args.toList ds gs before) (hfn : s.fn H (ds ++ gs) = { results := [.lit (.bool true)], args := ds }) (hb : Below W.heap.size W W') :
    s.post enc P f false true false false W args (.bool true) W' := by
  have hlt := hW.lt
  have hW0 := hW
  obtain ⟨p, q, hA, hV, rfl, hfz, hnd⟩ := hW
  rw [hvars] at hV
  obtain ⟨rfl, rfl⟩ := trodVars_none hV
  have hr : ∀ t ∈ f.params.toList, P.readableRec t = true ∧ t < P.types.size := fun t ht => by
    have := List.all_eq_true.1 hrd t ht
    simpa using this
  refine ⟨ds, [], _, [], p, [], hW0, ?_, ?_, ?_, hb.frame _, fun h => by cases h⟩
  · rw [hfn, hres]
    exact trodAll_mk1 (shut_bool htb true)
  · rw [hfn]
    exact trodAll_below hl hb hr (fun x hx => hlt x (List.mem_append_left _ hx)) hA
  · rw [hfn, hvars]
    rfl
theorem fld {H : Type} {enc : TypeId × Value → H} {P : Program} {w : World} {base : Nat} {spare : Nat → Bool} {held : Bool} {fuel : Nat} {t : TypeId} {fs : Array Field} {cs : List Value} {x : DataW H × List MemPlace}
    (ht : P.underlying t = some (.struct fs)) (h : DataW.trod enc P w base spare held fuel t cs = some x) (j : Nat) (f : Field) (hj : fs[j]? = some f) :
    ∃ n y, DataW.trod enc P w base spare held n f.type ((cs.drop f.offset).take (P.cellsOf f.type)) = some y := by
  obtain ⟨xs, n, _, _, _, hlen, hg⟩ := DataW.trod_struct ht h
  have hlt : j < xs.length := by rw [hlen]; exact (Array.getElem?_eq_some_iff.1 hj).1
  exact ⟨n, xs[j], by rw [hg j f hj]; exact List.getElem?_eq_getElem hlt⟩
end Go.Own
namespace Go.Own
open Go.RowKit Go.Maps Go.WideElems Go.WideShapes

/-- A table at any place of the list. -/
theorem tab_of {P : Program} {W : World} {name : String} {k : IntKind} {zs : List Int} {rest : List (String × DataW Unit)} {ps : List MemPlace} {g : Nat} {t e : TypeId} {n : Nat}
    (hg : P.globalNamed name = some g) (hty : (P.globals[g]?).map (·.type) = some t) (ht : P.underlying t = some (.array n e)) (he : P.underlying e = some (.int k)) (hce : P.cellsOf e = 1) (hct : P.cellsOf t = n)
    (h : DataW.LaidVars P W ((name, Lib.tabData k zs) :: rest) ps) : Lib.TabIs P W name k zs := by
  obtain ⟨g', t', cs, fuel, p, q, hg', ht', hvar, hd, _, _⟩ := h
  obtain rfl := Option.some.inj (hg.symm.trans hg')
  obtain rfl := Option.some.inj (hty.symm.trans ht')
  unfold Lib.TabIs
  rw [hvar, ← Lib.cells_of_tab ht he hce hct hd]
theorem tail_of {P : Program} {W : World} {x : String × DataW Unit} {rest : List (String × DataW Unit)} {ps : List MemPlace} (h : DataW.LaidVars P W (x :: rest) ps) : ∃ qs, DataW.LaidVars P W rest qs := by
  obtain ⟨_, _, _, _, _, q, _, _, _, _, h, _⟩ := h
  exact ⟨q, h⟩
/-- A map of texts to numbers that is laid, as a map's own piece. -/
theorem map_laid {P : Program} {W : World} {k e : TypeId} {kd : IntKind} {fuel b : Nat} {es : Array MapEntry} {clock : Nat} {sp : Nat → Bool} {held : Bool} {base : Nat} {E : List (Lit × DataW Unit)} {f : Lit → Option Value} (K : WideMaps.KeyLaw P k)
    (he : P.underlying e = some (.int kd)) (hb : W.heap[b]? = some (.map es clock)) (F : Fit P k (elemAt (fun _ => ()) P W base sp held fuel e) es clock)
    (hE : E = (es.toList.map (rg P k (elemAt (fun _ => ()) P W base sp held fuel e))).foldr DataW.insert [])
    (h1 : ∀ l d, (l, d) ∈ E → ∃ n, d = .lit (.int kd n) ∧ f l = some (.int kd n)) (h2 : ∀ l, (f l).isSome = true → ∃ d, (l, d) ∈ E) : (mapE P k b es.size f).F W := by
  have key : ∀ x ∈ es.toList, ∃ l n, keyOf P k x.key = some l ∧ x.val = .int kd n ∧ f l = some (.int kd n) ∧ rd (H := Value) P k tokR x = some (l, .held (.int kd n)) ∧ (l, DataW.lit (.int kd n)) ∈ E := fun x hx => by
    obtain ⟨y, hy⟩ := F.reads x hx
    have hk := rd_key hy
    have hm : y ∈ E := by
      rw [hE]
      refine (sorted_perm _).symm.subset (List.mem_map.2 ⟨x, hx, rg_of hy⟩)
    obtain ⟨n, hd, hf⟩ := h1 y.1 y.2 hm
    have hv : x.val = .int kd n := by
      unfold rd at hy
      rw [hk] at hy
      simp only [Option.bind_some, Option.map_eq_some_iff] at hy
      obtain ⟨z, hz, hzy⟩ := hy
      have hz1 : z.1 = y.2 := congrArg Prod.snd hzy
      unfold elemAt at hz
      split at hz
      · rename_i hform
        obtain ⟨n', e1, e2, _⟩ := DataW.trod_int he hz
        rw [← hz1, e2] at hd
        simp only [DataW.lit.injEq, Lit.int.injEq, true_and] at hd
        subst hd
        unfold Value.formed at hform
        rw [he] at hform
        cases hxv : x.val <;> rw [hxv] at e1 hform <;> simp_all [Value.cells]
      · cases hz
    refine ⟨y.1, n, hk, hv, hf, ?_, by rw [← hd]; exact hm⟩
    unfold rd
    rw [hk, hv]
    rfl
  have F' : Fit P k (tokR) es clock := ⟨F.size, F.stamped, fun x hx => by
    obtain ⟨l, n, _, _, _, h, _⟩ := key x hx
    exact ⟨_, h⟩⟩
  refine ⟨_, ⟨es, clock, hb, F', Nat.le_refl _, rfl⟩, ⟨_, rfl⟩, fun l hl z => ?_⟩
  have hs := atKey_sorted (es.toList.map (rg P k tokR)) (Go.ChangeMaps.rising_of_pairwise _ (Go.ChangeMaps.sorted_sorted _ (F'.strKeys K) (F'.apart K))) l hl
  by_cases hh : ∃ x ∈ es.toList, keyOf P k x.key = some l
  · obtain ⟨x, hx, hk⟩ := hh
    obtain ⟨l', n, hk', _, hf, hr, _⟩ := key x hx
    obtain rfl := Option.some.inj (hk.symm.trans hk')
    rw [hf]
    exact hs.2 (l, .held (.int kd n)) (List.mem_map.2 ⟨x, hx, rg_of hr⟩) rfl z
  · have hn : f l = none := by
      cases hfl : f l with
      | none => rfl
      | some v =>
        obtain ⟨d, hd⟩ := h2 l (by rw [hfl]; rfl)
        rw [hE] at hd
        obtain ⟨x, hx, hxe⟩ := List.mem_map.1 ((sorted_perm _).subset hd)
        obtain ⟨y, hy⟩ := F.reads x hx
        rw [rg_of hy] at hxe
        subst hxe
        exact absurd ⟨x, hx, rd_key hy⟩ hh
    rw [hn]
    refine hs.1 (fun p hp => ?_) z
    obtain ⟨x, hx, rfl⟩ := List.mem_map.1 hp
    obtain ⟨l', n, hk', _, _, hr, _⟩ := key x hx
    rw [rg_of hr]
    intro e
    exact hh ⟨x, hx, by rw [hk']; exact congrArg some e⟩
end Go.Own
namespace Go.Proofs.YtibabfedpdoofaaGreatDoor
open Go.RowKit Go.Own Go.Maps Go.WideElems Go.ChangeShapes Go.WideShapes

theorem own : ownKnob Tryz.prog.godebug = none := by kernel_rfl
theorem laidOut : laidOutB Tryz.prog = true := by kernel_rfl
theorem gTab : Tryz.prog.globalNamed "consignor/keys.parties" = some 2 := by kernel_rfl
theorem gTabType : (Tryz.prog.globals[2]?).map (·.type) = some 70 := by kernel_rfl
theorem gDeed : Tryz.prog.globalNamed "consignor/keys.deeds" = some 0 := by kernel_rfl
theorem gDeedType : (Tryz.prog.globals[0]?).map (·.type) = some 242 := by kernel_rfl
theorem gPowType : (Tryz.prog.globals[1]?).map (·.type) = some 262 := by kernel_rfl
theorem cellsTab : Tryz.prog.cellsOf 70 = 6 := by kernel_rfl
theorem cellsPow : Tryz.prog.cellsOf 262 = 20 := by kernel_rfl
theorem cellsInt : Tryz.prog.cellsOf 3 = 1 := by kernel_rfl
theorem cellsU64 : Tryz.prog.cellsOf 226 = 1 := by kernel_rfl
theorem deeds_met {W : World} {ps : List MemPlace} (h : DataW.LaidVars Tryz.prog W [("consignor/keys.deeds", Rows.laid_consignor_keys_deeds)] ps) : DeedsLaid W := by
  obtain ⟨g', t', cs, fuel, p, q, hg', ht', hvar, hd, _, _⟩ := h
  obtain rfl := Option.some.inj (gDeed.symm.trans hg')
  obtain rfl := Option.some.inj (gDeedType.symm.trans ht')
  have hc := fun i v (hi : cs[i]? = some v) => World.var?_cell gDeed hvar i ▸ hi
  rcases open_map Tryz.underlying242 hd with ⟨_, h2⟩ | ⟨b, es, clock, n, rfl, hcs, hb, _, F, hx⟩
  · cases h2
  · have h0 : cs[0]? = some (.map (some b)) := by
      have := congrArg (·[0]?) hcs
      simpa using this
    have hcell : W.cell? ⟨0, 0, none⟩ = some (.map (some b)) := by rw [World.var?_cell gDeed hvar 0]; exact h0
    have hE := congrArg Prod.fst hx
    simp only [Rows.laid_consignor_keys_deeds, DataW.map.injEq] at hE
    refine ⟨World.block_lt_of_cell? W _ hcell, b, es.size, hcell, map_laid (WideMaps.string_law Tryz.underlying9) Tryz.underlying3 hb F hE ?_ ?_⟩
    · intro l d hm
      simp only [List.mem_cons, List.not_mem_nil, or_false, Prod.mk.injEq] at hm
      rcases hm with ⟨rfl, rfl⟩ | ⟨rfl, rfl⟩ | ⟨rfl, rfl⟩ | ⟨rfl, rfl⟩ | ⟨rfl, rfl⟩ | ⟨rfl, rfl⟩
      all_goals exact ⟨_, rfl, rfl⟩
    · intro l hl
      obtain ⟨v, hv⟩ := Option.isSome_iff_exists.1 hl
      obtain ⟨d, h0, h5, rfl, rfl⟩ := deedsF_inv hv
      have : d = 0 ∨ d = 1 ∨ d = 2 ∨ d = 3 ∨ d = 4 ∨ d = 5 := by omega
      rcases this with rfl | rfl | rfl | rfl | rfl | rfl
      all_goals exact ⟨_, by simp [deedL]; rfl⟩
/-- What the rows' list gives. -/
theorem laidE_of {W : World} (h : laidMetH Tryz.prog [("math/bits.deBruijn32tab", Rows.laid_math_bits_deBruijn32tab), ("math/bits.deBruijn64tab", Rows.laid_math_bits_deBruijn64tab), ("internal/strconv.uint64pow10", Rows.laid_internal_strconv_uint64pow10), ("consignor/keys.parties", Rows.laid_consignor_keys_parties), ("consignor/keys.deeds", Rows.laid_consignor_keys_deeds)] W) : LaidE W := by
  obtain ⟨ps, h, _⟩ := (h : laidMet Tryz.prog _ W)
  obtain ⟨_, h⟩ := tail_of h
  obtain ⟨_, h⟩ := tail_of h
  have T : Lib.TabIs Tryz.prog W "internal/strconv.uint64pow10" .u64 Lib.pow10Tab := tab_of gPow gPowType Tryz.underlying262 Tryz.underlying226 cellsU64 cellsPow h
  obtain ⟨_, h⟩ := tail_of h
  have P : Lib.TabIs Tryz.prog W "consignor/keys.parties" .i64 [1, 0, 2, 1, 0, 2] := tab_of gTab gTabType Tryz.underlying70 Tryz.underlying3 cellsInt cellsTab h
  obtain ⟨_, h⟩ := tail_of h
  have c0 : W.cell? ⟨2, 0, none⟩ = some (.int .i64 1) := P.cell gTab 0 (by decide)
  exact ⟨⟨World.block_lt_of_cell? W _ c0, c0, P.cell gTab 1 (by decide), P.cell gTab 2 (by decide), P.cell gTab 3 (by decide), P.cell gTab 4 (by decide), P.cell gTab 5 (by decide)⟩, deeds_met h, T⟩
/-- A world for a witness: the settled one, tables and map holding what their initialisers lay. -/
def litVal : DataW Unit → Value
  | .lit (.int k n) => .int k n
  | _ => .int .u8 0
def litCells : DataW Unit → Array Value
  | .agg ps => (ps.map litVal).toArray
  | _ => #[]
def putCells (cs : Array Value) : Obj → Obj
  | .cells _ t frozen => .cells cs t frozen
  | o => o
def deedsObj : Obj := .map #[⟨.string ⟨#[99, 104, 97, 114, 103, 101]⟩, .int .i64 1, 0⟩, ⟨.string ⟨#[114, 101, 102, 117, 110, 100]⟩, .int .i64 4, 1⟩, ⟨.string ⟨#[114, 101, 108, 101, 97, 115, 101]⟩, .int .i64 3, 2⟩, ⟨.string ⟨#[114, 101, 115, 101, 114, 118, 101]⟩, .int .i64 0, 3⟩, ⟨.string ⟨#[115, 104, 105, 112]⟩, .int .i64 2, 4⟩, ⟨.string ⟨#[118, 111, 105, 100]⟩, .int .i64 5, 5⟩] 6
def laidHeap (h : Array Obj) : Array Obj :=
  let h1 := h.modify 3 (putCells (litCells Rows.laid_math_bits_deBruijn32tab))
  let h2 := h1.modify 4 (putCells (litCells Rows.laid_math_bits_deBruijn64tab))
  let h3 := h2.modify 1 (putCells (litCells Rows.laid_internal_strconv_uint64pow10))
  let h4 := h3.modify 2 (putCells (litCells Rows.laid_consignor_keys_parties))
  let h5 := h4.modify 0 (putCells #[.map (some h.size)])
  h5.push deedsObj
noncomputable def laidWorld (os : Os) : World :=
  { World.holding Tryz.prog os ⟨#[], #[], []⟩ with heap := laidHeap (World.holding Tryz.prog os ⟨#[], #[], []⟩).heap }
end Go.Proofs.YtibabfedpdoofaaGreatDoor
namespace Go.Own
open Go.RowKit Go.ChangeShapes Go.WideShapes Go.Deep

theorem five_of {l : List Value} (h : l.length = 5) : ∃ a b c d e, l = [a, b, c, d, e] := by
  match l, h with
  | [a, b, c, d, e], _ => exact ⟨a, b, c, d, e, rfl⟩
theorem addr_add1 (c : Addr) (k : Nat) : c.add (k + 1) = ⟨c.block, c.off + (k + 1), none⟩ := by simp [Addr.add]
/-- Structs of k cells that came in; f: a struct's cells; p: what is known of each. -/
theorem slice_of {H R : Type} [Inhabited R] {enc : TypeId × Value → H} {P : Program} {W : World} {base : Nat} {spare : Nat → Bool} {held : Bool} {fuel : Nat} {t e : TypeId} {cs : List Value} {x : DataW H × List MemPlace} {k : Nat} (f : R → List Value) (p : R → Prop)
    (ht : P.underlying t = some (.slice e)) (hk : P.cellsOf e = k) (hpos : 0 < k) (hf : ∀ r, (f r).length = k)
    (hel : ∀ (fuel' : Nat) (cs' : List Value) (x' : DataW H × List MemPlace), DataW.trod enc P W base spare held fuel' e cs' = some x' → cs'.length = k → ∃ r, cs' = f r ∧ p r)
    (h : DataW.trod enc P W base spare held fuel t cs = some x) : ∃ (v : Value) (L : List R), cs = [v] ∧ IsL W k v (L.map f) ∧ ∀ r ∈ L, p r := by
  rcases open_slice ht h with ⟨rfl, rfl⟩ | ⟨a, len, cap, m, n, D, Pl, rfl, hb, hl, hm, hmm, hx, hi⟩
  · exact ⟨_, [], rfl, .none _ _ (fun _ => rfl), by simp⟩
  · rw [hk] at hi
    have hlm : len ≤ m := by rw [hmm]; split <;> omega
    have hr : ∀ i, i < len → ∃ r : R, (∀ j (u : Value), (f r)[j]? = some u → W.cell? ((a.add (i * k)).add j) = some u) ∧ p r := fun i him => by
      obtain ⟨cs', hc, ht⟩ := hi i (by omega)
      obtain ⟨_, hlen, hg⟩ := World.cells?_some hc
      obtain ⟨r, rfl, hp⟩ := hel _ _ _ ht hlen
      refine ⟨r, fun j u hu => ?_, hp⟩
      have hj : j < k := by
        have := (List.getElem?_eq_some_iff.1 hu).1
        rwa [hf] at this
      rw [hg j hj]
      simpa using hu
    obtain ⟨G, hG⟩ := choose_lt (α := R) (p := fun i r => (∀ j (u : Value), (f r)[j]? = some u → W.cell? ((a.add (i * k)).add j) = some u) ∧ p r) hr
    refine ⟨_, (List.range len).map G, rfl, ?_, fun r hr => ?_⟩
    · by_cases h0 : len = 0
      · subst h0; exact .none _ _ (fun e => by cases e)
      have hL : (((List.range len).map G).map f).length = len := by simp
      have key : IsL W k (.slice (some a) (((List.range len).map G).map f).length cap) (((List.range len).map G).map f) := by
        refine .some a cap _ (by omega) hm (by omega) ⟨?_, fun i h j u hu => ?_⟩
        · have h1 : 0 < (f (G 0)).length := by rw [hf]; exact hpos
          have := World.block_lt_of_cell? W _ ((hG 0 (by omega)).1 0 _ (List.getElem?_eq_getElem h1))
          rwa [lBlock, lBlock] at this
        · rw [hL] at h
          simp only [List.getElem_map, List.getElem_range] at hu
          exact (hG i h).1 j u hu
      rwa [hL] at key
    · obtain ⟨i, hi', rfl⟩ := List.mem_map.1 hr
      exact (hG i (List.mem_range.1 hi')).2
theorem twelve {l : List Value} (h : l.length = 12) : ∃ a b c d e f g h i j k m, l = [a, b, c, d, e, f, g, h, i, j, k, m] := by
  match l, h with
  | [a, b, c, d, e, f, g, h, i, j, k, m], _ => exact ⟨a, b, c, d, e, f, g, h, i, j, k, m, rfl⟩
end Go.Own
namespace Go.Proofs.YtibabfedpdoofaaGreatDoor
open Go.RowKit Go.Own Go.ChangeShapes Go.WideShapes Go.Deep

theorem cellsI64 : Tryz.prog.cellsOf 2 = 1 := by kernel_rfl
theorem cellsKey : Tryz.prog.cellsOf 29 = 2 := by kernel_rfl
theorem cellsStr : Tryz.prog.cellsOf 9 = 1 := by kernel_rfl
theorem cellsOrder : Tryz.prog.cellsOf 27 = 5 := by kernel_rfl
theorem cellsStmt : Tryz.prog.cellsOf 32 = 3 := by kernel_rfl
theorem cellsEnt : Tryz.prog.cellsOf 34 = 12 := by kernel_rfl
theorem cellsRow : Tryz.prog.cellsOf 160 = 5 := by kernel_rfl
theorem cellsRows : Tryz.prog.cellsOf 30 = 1 := by kernel_rfl
set_option maxRecDepth 100000 in
theorem row_of {H : Type} {enc : TypeId × Value → H} {W : World} {base : Nat} {spare : Nat → Bool} {held : Bool} {fuel : Nat} {cs : List Value} {x : DataW H × List MemPlace}
    (h : DataW.trod enc Tryz.prog W base spare held fuel 160 cs = some x) (hl : cs.length = 5) : ∃ r : RowS, cs = r.cells.toList := by
  obtain ⟨a, b, c, d, e, rfl⟩ := five_of hl
  obtain ⟨_, _, hk⟩ := fld Tryz.underlying160 h 0 _ rfl
  obtain ⟨_, _, h1⟩ := fld Tryz.underlying160 h 1 _ rfl
  obtain ⟨_, _, h2⟩ := fld Tryz.underlying160 h 2 _ rfl
  obtain ⟨_, _, h3⟩ := fld Tryz.underlying160 h 3 _ rfl
  obtain ⟨_, _, k0⟩ := fld Tryz.underlying29 hk 0 _ rfl
  obtain ⟨_, _, k1⟩ := fld Tryz.underlying29 hk 1 _ rfl
  obtain ⟨n1, e1, _, _⟩ := DataW.trod_int Tryz.underlying3 k0
  obtain ⟨n2, e2, _, _⟩ := DataW.trod_int Tryz.underlying3 k1
  obtain ⟨n3, e3, _, _⟩ := DataW.trod_int Tryz.underlying3 h1
  obtain ⟨n4, e4, _, _⟩ := DataW.trod_int Tryz.underlying2 h2
  obtain ⟨n5, e5, _, _⟩ := DataW.trod_int Tryz.underlying3 h3
  simp [cellsInt, cellsI64, cellsKey] at e1 e2 e3 e4 e5
  subst e1 e2 e3 e4 e5
  exact ⟨⟨n1, n2, n3, n4, n5⟩, rfl⟩
instance : Inhabited RowS := ⟨⟨0, 0, 0, 0, 0⟩⟩
set_option maxRecDepth 100000 in
/-- Rows that came in. -/
theorem rows_of {H : Type} {enc : TypeId × Value → H} {W : World} {base : Nat} {spare : Nat → Bool} {held : Bool} {fuel : Nat} {cs : List Value} {x : DataW H × List MemPlace}
    (h : DataW.trod enc Tryz.prog W base spare held fuel 30 cs = some x) : ∃ v rs, cs = [v] ∧ IsRows W v rs := by
  rcases open_slice Tryz.underlying30 h with ⟨rfl, rfl⟩ | ⟨a, len, cap, m, n, D, Pl, rfl, hb, hl, hm, hmm, hx, hi⟩
  · exact ⟨_, [], rfl, .none _ _ (fun _ => rfl)⟩
  · rw [cellsRow] at hi
    have hlm : len ≤ m := by rw [hmm]; split <;> omega
    have hr : ∀ i, i < len → ∃ r : RowS, ∀ k (u : Value), r.cells[k]? = some u → W.cell? ((a.add (i * 5)).add k) = some u := fun i him => by
      obtain ⟨cs', hc, ht⟩ := hi i (by omega)
      obtain ⟨_, hlen, hg⟩ := World.cells?_some hc
      obtain ⟨r, rfl⟩ := row_of ht hlen
      refine ⟨r, fun k u hu => ?_⟩
      have hk : k < 5 := by
        have := (Array.getElem?_eq_some_iff.1 hu).1
        simpa [RowS.cells] using this
      rw [hg k hk]
      simpa using hu
    obtain ⟨R, hR⟩ := choose_lt (α := RowS) (p := fun i r => ∀ k (u : Value), r.cells[k]? = some u → W.cell? ((a.add (i * 5)).add k) = some u) hr
    refine ⟨_, (List.range len).map R, rfl, ?_⟩
    by_cases h0 : len = 0
    · subst h0; exact .none _ _ (fun e => by cases e)
    have hL : ((List.range len).map R).length = len := by simp
    have key : IsRows W (.slice (some a) ((List.range len).map R).length cap) ((List.range len).map R) := by
      refine .some a cap _ (by omega) hm (by omega) ⟨?_, fun i h => ?_, fun i h => ?_, fun i h => ?_, fun i h => ?_, fun i h => ?_⟩
      · have := World.block_lt_of_cell? W _ (hR 0 (by omega) 0 _ rfl)
        rwa [add_block, add_block] at this
      all_goals
        rw [hL] at h
        simp only [List.getElem_map, List.getElem_range]
      · exact hR i h 0 _ rfl
      · rw [← addr_add1]; exact hR i h 1 _ rfl
      · rw [← addr_add1]; exact hR i h 2 _ rfl
      · rw [← addr_add1]; exact hR i h 3 _ rfl
      · rw [← addr_add1]; exact hR i h 4 _ rfl
    rwa [hL] at key
theorem wf_inI {n : Int} (h : (Lit.int .i64 n).wf = true) : inI n = true := by
  simp [Lit.wf, IntKind.min, IntKind.max, IntKind.bits, IntKind.signed] at h
  exact inI_iff.2 (by omega)
instance : Inhabited EntI := ⟨⟨⟨0, 0, [], [], 0, 0, 0, 0, 0, 0, 0, []⟩, .slice none 0 0⟩⟩
set_option maxRecDepth 100000 in
set_option maxHeartbeats 4000000 in
theorem entCells_of {H : Type} {enc : TypeId × Value → H} {W : World} {base : Nat} {spare : Nat → Bool} {held : Bool} {fuel : Nat} {cs : List Value} {x : DataW H × List MemPlace}
    (hf : DataW.trod enc Tryz.prog W base spare held fuel 34 cs = some x) (hl : cs.length = 12) : ∃ e : EntI, cs = entC e ∧ IsRows W e.v e.x.rs ∧ e.x.ref.length ≤ maxLen ∧ e.x.sku.length ≤ maxLen ∧ inI e.x.o = true := by
  obtain ⟨a, b, c, d, e, f, g, h', i, j, k, m, rfl⟩ := twelve hl
  obtain ⟨_, _, h0⟩ := fld Tryz.underlying34 hf 0 _ rfl
  obtain ⟨_, _, ho⟩ := fld Tryz.underlying34 hf 1 _ rfl
  obtain ⟨_, _, hk⟩ := fld Tryz.underlying34 hf 2 _ rfl
  obtain ⟨_, _, h8⟩ := fld Tryz.underlying34 hf 3 _ rfl
  obtain ⟨_, _, hs⟩ := fld Tryz.underlying34 hf 4 _ rfl
  obtain ⟨_, _, h1⟩ := fld Tryz.underlying27 ho 0 _ rfl
  obtain ⟨_, _, h2⟩ := fld Tryz.underlying27 ho 1 _ rfl
  obtain ⟨_, _, h3⟩ := fld Tryz.underlying27 ho 2 _ rfl
  obtain ⟨_, _, h4⟩ := fld Tryz.underlying27 ho 3 _ rfl
  obtain ⟨_, _, h5⟩ := fld Tryz.underlying27 ho 4 _ rfl
  obtain ⟨_, _, h6⟩ := fld Tryz.underlying29 hk 0 _ rfl
  obtain ⟨_, _, h7⟩ := fld Tryz.underlying29 hk 1 _ rfl
  obtain ⟨_, _, h9⟩ := fld Tryz.underlying32 hs 0 _ rfl
  obtain ⟨_, _, h10⟩ := fld Tryz.underlying32 hs 1 _ rfl
  obtain ⟨_, _, h11⟩ := fld Tryz.underlying32 hs 2 _ rfl
  obtain ⟨n0, e0, _, _⟩ := DataW.trod_int Tryz.underlying3 h0
  obtain ⟨n1, e1, _, _⟩ := DataW.trod_int Tryz.underlying3 h1
  obtain ⟨s2, e2, _, l2⟩ := DataW.trod_string Tryz.underlying9 h2
  obtain ⟨s3, e3, _, l3⟩ := DataW.trod_string Tryz.underlying9 h3
  obtain ⟨n4, e4, _, _⟩ := DataW.trod_int Tryz.underlying3 h4
  obtain ⟨n5, e5, _, _⟩ := DataW.trod_int Tryz.underlying2 h5
  obtain ⟨n6, e6, _, w6⟩ := DataW.trod_int Tryz.underlying3 h6
  obtain ⟨n7, e7, _, _⟩ := DataW.trod_int Tryz.underlying3 h7
  obtain ⟨n8, e8, _, _⟩ := DataW.trod_int Tryz.underlying3 h8
  obtain ⟨n9, e9, _, _⟩ := DataW.trod_int Tryz.underlying3 h9
  obtain ⟨n10, e10, _, _⟩ := DataW.trod_int Tryz.underlying3 h10
  obtain ⟨u, rs, e11, hu⟩ := rows_of h11
  simp [cellsInt, cellsI64, cellsStr, cellsKey, cellsOrder, cellsStmt, cellsRows] at e0 e1 e2 e3 e4 e5 e6 e7 e8 e9 e10 e11
  subst e0 e1 e2 e3 e4 e5 e6 e7 e8 e9 e10 e11
  exact ⟨⟨⟨n0, n1, s2.data.toList, s3.data.toList, n4, n5, n6, n7, n8, n9, n10, rs⟩, _⟩, by simp [entC], hu, by simpa using l2, by simpa using l3, wf_inI w6⟩
set_option maxRecDepth 100000 in
theorem ents_of {H : Type} {enc : TypeId × Value → H} {W : World} {base : Nat} {spare : Nat → Bool} {held : Bool} {v : Value} {d : DataW H} {p : List MemPlace}
    (h : DataW.Trod enc Tryz.prog W base spare held 22 v d p) (hv : v.cells.toList = [v]) : ∃ es : List EntI, IsEnts W v es := by
  obtain ⟨fuel, hf⟩ := h
  obtain ⟨u, es, e, hI, hw⟩ := slice_of entC (fun e => IsRows W e.v e.x.rs ∧ e.x.ref.length ≤ maxLen ∧ e.x.sku.length ≤ maxLen ∧ inI e.x.o = true) Tryz.underlying22 cellsEnt (by decide) (fun _ => rfl) (fun _ _ _ h hl => entCells_of h hl) hf
  rw [hv] at e
  obtain rfl : v = u := by simpa using e
  exact ⟨es, ⟨hI, hw⟩⟩
end Go.Proofs.YtibabfedpdoofaaGreatDoor

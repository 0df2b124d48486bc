/-
  The law BooksPost returns true, by walking its text; conditions: the postings lie in memory, int64 numbers. (Printed by wip/mkbkpost.py.)
-/
import Derived.Test.YthiokpjakiidjaaBkP
import Derived.Test.YthiokpjakiidjaaOwn5
namespace Go.Proofs.Ythiokpjakiidjaa
open Go.RowKit Go.Own Go.Maps

def postAll (l : List Pst) : List Pst := l.foldl postL []
theorem postL_len (l : List Pst) (p : Pst) : (postL l p).length ≤ l.length + 1 := by
  unfold postL
  split <;> simp
theorem postAll_snoc (l : List Pst) (p : Pst) : postAll (l ++ [p]) = postL (postAll l) p := by simp [postAll, List.foldl_append]
theorem postAll_take {l : List Pst} {j : Nat} (h : j < l.length) : postAll (l.take (j + 1)) = postL (postAll (l.take j)) l[j] := by
  rw [List.take_succ_eq_append_getElem h, postAll_snoc]
theorem postAll_ok (l : List Pst) : (∀ p ∈ l, WfP p) → Bk (postAll l) ∧ (∀ p ∈ postAll l, WfP p) ∧ (postAll l).length ≤ l.length := by
  have key : ∀ (l m : List Pst), Bk m → (∀ p ∈ m, WfP p) → (∀ p ∈ l, WfP p) → Bk (l.foldl postL m) ∧ (∀ p ∈ l.foldl postL m, WfP p) ∧ (l.foldl postL m).length ≤ m.length + l.length := by
    intro l
    induction l with
    | nil => exact fun m h1 h2 _ => ⟨h1, h2, by simp⟩
    | cons p l ih =>
      intro m h1 h2 h3
      obtain ⟨g1, g2, g3⟩ := ih (postL m p) (h1.post p) (fun q hq => by
        unfold postL at hq
        split at hq
        · rcases List.mem_append.1 hq with hq | hq
          · exact h2 q hq
          · rw [List.mem_singleton.1 hq]; exact h3 p (by simp)
        · exact h2 q hq) (fun q hq => h3 q (by simp [hq]))
      have := postL_len m p
      exact ⟨g1, g2, by simp only [List.foldl_cons, List.length_cons]; omega⟩
  intro h
  obtain ⟨h1, h2, h3⟩ := key l [] .nil (by simp) h
  exact ⟨h1, h2, by simpa [postAll] using h3⟩
theorem rfAt_of {w : World} {b : Nat} {v : Value} {l : List Pst} (h : (rfE b v l).F w) : RfAt w b v l := ⟨h.1 _ (.head _), h.1 _ (.tail _ (.head _))⟩
theorem rfForm {w : World} {b : Nat} {v : Value} {l : List Pst} (h : RfAt w b v l) : ∃ p c, v = .slice p l.length c := by
  rcases h.row.2 with ⟨rfl, h0⟩ | ⟨g, cap, cur, rfl, _⟩
  · exact ⟨_, _, by rw [List.length_map] at h0; rw [h0]⟩
  · exact ⟨_, _, by rw [List.length_map]⟩
theorem RfAt.isL {w : World} {b : Nat} {v : Value} {l : List Pst} (h : RfAt w b v l) : IsL w 5 v (l.map pstC) := isL_of_owns (pstC_len l) h.row

set_option maxHeartbeats 32000000 in
set_option maxRecDepth 100000 in
theorem booksPost_any {W : World} {v0 : Value} {l : List Pst} (n o : Int) (h : IsL W 5 v0 (l.map pstC)) (hw : ∀ p ∈ l, WfP p) (hn : inI n = true) (ho : inI o = true) :
    Calls Try.prog 5 #[v0, .int .i64 n, .int .i64 o] W fun e w' => e = .returned (.bool true) ∧ Below W.heap.size W w' := by
  have HH := Lib.hid h
  have HW := Lib.hid hw
  have GR := fun w (hb : Below W.heap.size W w) => great_any 60 (h.below hb h.lt)
  obtain ⟨sp, sc, rfl, hmx⟩ := h.slice
  rw [List.length_map] at hmx HH GR ⊢
  have PO := fun w => posted_any w
  have HO := Own.start W
  clear h hw
  cases hg : greatB l 60
  · have h60 : l.length ≤ 60 := by
      simp only [greatB, Bool.or_eq_false_iff, decide_eq_false_iff_not] at hg
      omega
    rw [hg] at GR
    clear hg
    go_enter Try.func5, Try.ntmps5
    go_wp2_with (first | (go_at_call 8; go_must ((with_reducible refine (GR _ HO.grown).mono ?_); rintro e w ⟨rfl, hb⟩; replace HO := HO.call hb; clear hb)) | (go_at_call 10; go_must ((with_reducible refine (bkNew_any _).mono ?_); rintro e w ⟨b, pm, bm, rfl, HO1⟩; replace HO := HO.lift HO1; clear HO1; simp only [List.cons_append, List.nil_append] at HO)) | (first | ((with_reducible apply wpList_boxAgg _ HO rfl); exact rfl; exact rfl; exact rfl; clear HO; intro r w HO; (simp only [Act.put, List.setIfInBounds_toArray, List.set_cons_succ, List.set_cons_zero])) | ((with_reducible apply wpList_allocAgg _ HO rfl); exact rfl; infer_instance; exact rfl; clear HO; intro r w HO; (simp only [Act.put, List.setIfInBounds_toArray, List.set_cons_succ, List.set_cons_zero]))))
    replace HO : Own W w [bkE b (.slice none 0 0) pm bm [], rfE r (.slice none 0 0) []] := (Own.join (es := rfPs r (.slice none 0 0) []) ((HO.nil 30 5).swap)).swap
    go_loopw [9] (fun i wr => ∃ (j : Nat) (v : Value) (tp : Option Addr) (tc : Nat), j ≤ l.length ∧ i = .int .i64 (j : Int) ∧ Own W wr [bkE b v pm bm (postAll (l.take j)), rfE r (.slice tp (postAll (l.take j)).length tc) (postAll (l.take j))]) (fun i _ => l.length - (intOf i).toNat)
    case atStart => exact ⟨0, _, none, 0, by omega, rfl, HO⟩
    case round =>
      clear HO
      obtain ⟨j, v, tp, tc, hj, rfl, HO⟩ := hrel
      by_cases hjl : j < l.length
      · have hjI : (j : Int) < (l.length : Int) := by omega
        obtain ⟨a, rfl, hst⟩ := oldAt HH.out rfl hjl
        have hst1 := fun w' (hb : Below W.heap.size W w') => hst w' hb 1 _ rfl
        replace hst := Lib.hid hst
        replace hst1 := Lib.hid hst1
        obtain ⟨hB, hWf, hLen⟩ := postAll_ok (l.take j) (fun p hp => HW.out p (List.mem_of_mem_take hp))
        rw [List.length_take] at hLen
        have hp := HW.out _ (List.getElem_mem hjl)
        have HT := Lib.hid (postAll_take hjl)
        generalize postAll (l.take j) = P at *
        have P1 := fun (w : World) (hO : Own W w [bkE b v pm bm P, rfE r (.slice tp P.length tc) P]) => bkPost_any l[j] hO (L' := fun v' => [bkE b v' pm bm (postL P l[j]), rfE r (.slice tp P.length tc) P]) (fun v' => .head _) hB hp (by omega)
        have P2 := fun (w : World) (v' : Value) (hO : Own W w [bkE b v' pm bm (postL P l[j]), rfE r (.slice tp P.length tc) P]) => rfPost_any l[j] hO (L' := fun v'' => [bkE b v' pm bm (postL P l[j]), rfE r v'' (postL P l[j])]) (fun v' => .tail _ _ _ (.head _)) hB hWf hp (by omega)
        have hB' := hB.post l[j]
        have hWf' : ∀ p ∈ postL P l[j], WfP p := fun q hq => by
          unfold postL at hq
          split at hq
          · rcases List.mem_append.1 hq with hq | hq
            · exact hWf q hq
            · rw [List.mem_singleton.1 hq]; exact hp
          · exact hWf q hq
        have hLen' : (postL P l[j]).length ≤ 61 := by have := postL_len P l[j]; omega
        have hpo := hp.o
        generalize postE P l[j] = ex at *
        generalize postL P l[j] = N at *
        clear hB hWf hLen hp
        generalize l[j] = q at *
        obtain ⟨qi, qo, qd, qc, qa⟩ := q
        simp only [pstV, pstC] at hst P1 P2
        simp only at hpo hst1
        go_upto_region 8 with fail
        refine region_treeO [] [(0, true), (1, true), (2, true), (3, true), (4, true), (6, true), (7, true), (8, true), (9, true), (10, true), (5, false), (11, false), (12, true)] (.fin [(0, true), (1, true), (2, true), (3, true), (4, true), (6, true), (7, true), (8, true), (9, true), (10, true), (5, false), (11, false), (12, true)]) HO (by with_reducible (repeat (first | exact List.nil_sublist _ | apply List.Sublist.cons_cons | apply List.Sublist.cons))) (by kernel_rfl) (by kernel_rfl) ?_
        clear HO
        intro w HO
        refine wpS_fin ?_
        iterate 10 (first | ((with_reducible apply wpSched_loadAt); exact rfl; exact rfl; exact rfl; exact (fun w' hw => hst.out w' (hw _ List.mem_cons_self)); infer_instance; exact rfl; exact rfl; (simp only [Act.put, List.setIfInBounds_toArray, List.set_cons_succ, List.set_cons_zero])) | ((with_reducible apply wpSched_pure); exact rfl; exact rfl; (intro w'; go_simp; try with_reducible rfl); (simp only [Act.put, List.setIfInBounds_toArray, List.set_cons_succ, List.set_cons_zero])))
        ((with_reducible apply wpSched_loud); exact rfl; go_wp2_with ((go_at_call 11; go_must ((with_reducible refine (P1 _ HO).mono ?_); clear HO; rintro e w ⟨rfl, v1, HO⟩))))
        refine thenQ_keep (HO.heldO (by with_reducible (repeat (first | exact List.nil_sublist _ | apply List.Sublist.cons_cons | apply List.Sublist.cons)))) ?_
        ((with_reducible apply wpSched_loud); exact rfl; go_wp2_with ((go_at_call 16; go_must ((with_reducible refine (P2 _ _ HO).mono ?_); clear HO; rintro e w ⟨rfl, v2, HO⟩))))
        refine thenQ_keep (HO.heldO (by with_reducible (repeat (first | exact List.nil_sublist _ | apply List.Sublist.cons_cons | apply List.Sublist.cons)))) ?_
        ((with_reducible apply wpSched_pure); exact rfl; exact rfl; (intro w'; go_simp; try with_reducible rfl); (simp only [Act.put, List.setIfInBounds_toArray, List.set_cons_succ, List.set_cons_zero]))
        refine wpSched_end ?_
        clear P1 P2
        obtain ⟨tp1, tc1, rfl⟩ := rfForm (Own.rfAt HO (.tail _ _ _ (.head _)))
        have LS := fun (w : World) (hO : Own W w [bkE b v1 pm bm N, rfE r (.slice tp1 N.length tc1) N]) => bkList_any (Own.bkAt hO (.head _)) (by omega)
        go_wp2_with fail
        go_loopw [10] (fun i wr => ∃ k : Nat, k ≤ 7 ∧ i = .int .i64 ((k : Int) - 1) ∧ Own W wr [bkE b v1 pm bm N, rfE r (.slice tp1 N.length tc1) N]) (fun i _ => (6 - intOf i).toNat)
        case atStart => exact ⟨0, by omega, rfl, HO⟩
        case round =>
          clear HO
          obtain ⟨k, hk, rfl, HO⟩ := hrel
          by_cases hk7 : k < 7
          · have hkI : (k : Int) - 1 < 6 := by omega
            have hki : inI ((k : Int) - 1) = true := inI_iff.2 (by omega)
            have B1 := fun (w : World) (hO : Own W w [bkE b v1 pm bm N, rfE r (.slice tp1 N.length tc1) N]) => bkBal_any (Own.bkAt hO (.head _)) hki hpo
            have R1 := fun (w : World) (hO : Own W w [bkE b v1 pm bm N, rfE r (.slice tp1 N.length tc1) N]) => rfBal_any (Own.rfAt hO (.tail _ _ _ (.head _))) hB' hWf' ((k : Int) - 1) qo
            have B0 := fun (w : World) (hO : Own W w [bkE b v1 pm bm N, rfE r (.slice tp1 N.length tc1) N]) => bkBal_any (Own.bkAt hO (.head _)) hki (o := 0) rfl
            have R0 := fun (w : World) (hO : Own W w [bkE b v1 pm bm N, rfE r (.slice tp1 N.length tc1) N]) => rfBal_any (Own.rfAt hO (.tail _ _ _ (.head _))) hB' hWf' ((k : Int) - 1) 0
            have hwk : IntKind.i64.wrap ((k : Int) - 1 + 1) = (k : Int) := by rw [IntKind.wrap_i64]; omega
            generalize bal N ((k : Int) - 1) qo = z1 at *
            generalize bal N ((k : Int) - 1) 0 = z0 at *
            go_wp2_with fail
            refine region_own HO (by kernel_rfl) (by kernel_rfl) ?_
            clear HO
            intro F HF
            repeat (first | (first | (first | go_big_quiet_skip | ((with_reducible apply wpQuiet_loadAll HF); exact rfl; exact rfl; (repeat (with_reducible (first | exact At.head _ | apply At.tail))); infer_instance; exact rfl; exact rfl; (simp only [Act.put, List.setIfInBounds_toArray, List.set_cons_succ, List.set_cons_zero])) | ((with_reducible apply wpQuiet_loadOne HF); exact rfl; exact rfl; (repeat (with_reducible (first | exact At.head _ | apply At.tail))); exact rfl; infer_instance; exact rfl; (simp only [Act.put, List.setIfInBounds_toArray, List.set_cons_succ, List.set_cons_zero])) | ((with_reducible apply wpQuiet_loadPart HF); exact rfl; exact rfl; (repeat (with_reducible (first | exact At.head _ | apply At.tail))); infer_instance; exact (Nat.le_of_ble_eq_true rfl); (simp only [List.drop_succ_cons, List.drop_zero, List.take_succ_cons, List.take_zero]; rfl); exact rfl; (simp only [Act.put, List.setIfInBounds_toArray, List.set_cons_succ, List.set_cons_zero]))) | ((with_reducible apply wpQuiet_loadAt1 HF); exact rfl; exact rfl; exact (fun w' h1 => hst1.out w' h1.grown); infer_instance; exact rfl; (simp only [Act.put, List.setIfInBounds_toArray, List.set_cons_succ, List.set_cons_zero]))) | go_big_quiet_step ((first | (go_at_call 13; first | (with_reducible exact calls_fam HF (B1 _ (HF.own _))) | (with_reducible exact calls_fam HF (B0 _ (HF.own _)))) | (go_at_call 17; first | (with_reducible exact calls_fam HF (R1 _ (HF.own _))) | (with_reducible exact calls_fam HF (R0 _ (HF.own _)))))))
            refine wpQuiet_nil ?_
            intro x
            have HO := HF.own x
            clear HF
            generalize F x = w at *
            clear x F
            go_wp2_with fail
            go_roundw
            case rel => exact ⟨k + 1, by omega, by go_num, HO⟩
            case measure => simp [intOf] <;> omega
          · obtain rfl : k = 7 := by omega
            go_wp2_with (first | (go_at_call 18; go_must ((with_reducible refine (LS _ HO).mono ?_); rintro e w ⟨v3, rfl, HO1⟩; replace HO := HO.lift HO1; clear HO1; simp only [List.cons_append, List.nil_append] at HO)))
            obtain ⟨⟨p3, c3, rfl⟩, -⟩ := HO.rowForm (v := v3) (.head _)
            rw [List.length_map] at HO ⊢
            have SA := fun (w : World) (hO : Own W w [row 30 5 (.slice p3 N.length c3) (N.map pstC), bkE b v1 pm bm N, rfE r (.slice tp1 N.length tc1) N]) => same_any (isL_of_owns (pstC_len N) (hO.has _ (.head _))) (Own.rfAt hO (.tail _ _ _ (.tail _ _ _ (.head _)))).isL
            rw [decide_eq_true rfl] at SA
            have MA := fun (w : World) (hO : Own W w [row 30 5 (.slice p3 N.length c3) (N.map pstC), bkE b v1 pm bm N, rfE r (.slice tp1 N.length tc1) N]) => bkMany_any (Own.bkAt hO (.tail _ _ _ (.head _)))
            have ZA := fun (w : World) (hO : Own W w [row 30 5 (.slice p3 N.length c3) (N.map pstC), bkE b v1 pm bm N, rfE r (.slice tp1 N.length tc1) N]) => bkZero_any (Own.bkAt hO (.tail _ _ _ (.head _))) hB'.may
            clear LS
            go_upto_region 16 with fail
            refine region_own HO (by kernel_rfl) (by kernel_rfl) ?_
            clear HO
            intro F HF
            repeat (first | (first | (first | go_big_quiet_skip | ((with_reducible apply wpQuiet_loadAll HF); exact rfl; exact rfl; (repeat (with_reducible (first | exact At.head _ | apply At.tail))); infer_instance; exact rfl; exact rfl; (simp only [Act.put, List.setIfInBounds_toArray, List.set_cons_succ, List.set_cons_zero])) | ((with_reducible apply wpQuiet_loadOne HF); exact rfl; exact rfl; (repeat (with_reducible (first | exact At.head _ | apply At.tail))); exact rfl; infer_instance; exact rfl; (simp only [Act.put, List.setIfInBounds_toArray, List.set_cons_succ, List.set_cons_zero])) | ((with_reducible apply wpQuiet_loadPart HF); exact rfl; exact rfl; (repeat (with_reducible (first | exact At.head _ | apply At.tail))); infer_instance; exact (Nat.le_of_ble_eq_true rfl); (simp only [List.drop_succ_cons, List.drop_zero, List.take_succ_cons, List.take_zero]; rfl); exact rfl; (simp only [Act.put, List.setIfInBounds_toArray, List.set_cons_succ, List.set_cons_zero]))) | ((with_reducible apply wpQuiet_loadAt1 HF); exact rfl; exact rfl; exact (fun w' h1 => old_cell (Own.rfAt h1 (.tail _ _ _ (.tail _ _ _ (.head _)))).box 0 rfl); infer_instance; exact rfl; (simp only [Act.put, List.setIfInBounds_toArray, List.set_cons_succ, List.set_cons_zero]))) | go_big_quiet_step ((first | (go_at_call 19; (with_reducible exact calls_fam HF (SA _ (HF.own _)))) | (go_at_call 15; (with_reducible exact calls_fam HF (MA _ (HF.own _)))) | (go_at_call 14; (with_reducible exact calls_fam HF (ZA _ (HF.own _)))))))
            refine wpQuiet_nil ?_
            intro x
            have HO := HF.own x
            clear HF
            generalize F x = w at *
            clear x F
            clear SA MA ZA
            go_wp2_with fail
            go_loopw [12] (fun i wr => ∃ (k : Nat) (A : List (List Value)), k ≤ N.length ∧ i = .int .i64 (k : Int) ∧ A.length = N.length ∧ (∀ x ∈ A, x.length = 5) ∧ Own W wr [row 30 5 (.slice p3 N.length c3) A, bkE b v1 pm bm N, rfE r (.slice tp1 N.length tc1) N]) (fun i _ => N.length - (intOf i).toNat)
            case atStart => exact ⟨0, _, by omega, rfl, by rw [List.length_map], pstC_len N, HO⟩
            case round =>
              clear HO
              obtain ⟨k, A, hk, rfl, hA, hA5, HO⟩ := hrel
              by_cases hkl : k < N.length
              · have hkI : (k : Int) < (N.length : Int) := by omega
                obtain ⟨p4, c4, hsl⟩ := (HO.rowForm (v := .slice p3 N.length c3) (.head _)).2 (by omega)
                obtain ⟨rfl, -, rfl⟩ : p3 = some p4 ∧ N.length = A.length ∧ c3 = c4 := by simpa using hsl
                clear hsl
                have hkA : k < A.length := by omega
                go_wp2_with (first | go_big_skip | ((with_reducible apply wpList_storeRow (i := k) HO); exact rfl; exact rfl; (first | (simp [Act.eval]; rfl) | exact rfl); exact rfl; (repeat (with_reducible (first | exact At.head _ | apply At.tail))); exact hA5; exact hkA; exact rfl; infer_instance; exact rfl; exact rfl; clear HO; intro w HO; (simp only [Act.put])))
                go_roundw
                case rel => exact ⟨k + 1, _, by omega, by go_num, by rw [List.length_set]; exact hA, fun x hx => by
                  rcases List.mem_or_eq_of_mem_set hx with hx | rfl
                  · exact hA5 x hx
                  · rfl, HO⟩
                case measure => simp [intOf] <;> omega
              · obtain rfl : k = N.length := by omega
                go_wp2_with fail
                go_roundw
                case rel => exact ⟨j + 1, _, _, _, by omega, by go_num, by rw [HT.out]; exact HO.tail⟩
                case measure => simp [intOf] <;> omega
      · obtain rfl : j = l.length := by omega
        obtain ⟨hB, hWf, hLen⟩ := postAll_ok l HW.out
        rw [List.take_length] at HO
        generalize postAll l = N at *
        have BA := fun (w : World) (hO : Own W w [bkE b v pm bm N, rfE r (.slice tp N.length tc) N]) => bkBal_any (Own.bkAt hO (.head _)) hn ho
        have RA := fun (w : World) (hO : Own W w [bkE b v pm bm N, rfE r (.slice tp N.length tc) N]) => rfBal_any (Own.rfAt hO (.tail _ _ _ (.head _))) hB hWf n o
        have LS := fun (w : World) (hO : Own W w [bkE b v pm bm N, rfE r (.slice tp N.length tc) N]) => bkList_any (Own.bkAt hO (.head _)) (by omega)
        have SA := fun (w : World) (p3 : Option Addr) (c3 : Nat) (hO : Own W w [row 30 5 (.slice p3 N.length c3) (N.map pstC), bkE b v pm bm N, rfE r (.slice tp N.length tc) N]) => same_any (isL_of_owns (pstC_len N) (hO.has _ (.head _))) (Own.rfAt hO (.tail _ _ _ (.tail _ _ _ (.head _)))).isL
        rw [decide_eq_true rfl] at SA
        clear hB hWf
        generalize bal N n o = z1 at *
        go_upto_region 22 with fail
        refine region_sched2 ([rfE r (.slice tp N.length tc) N]) [(0, true), (1, true), (2, true), (4, true), (5, true), (6, true), (3, false), (7, false), (8, true), (9, true), (10, true), (12, true), (13, true), (14, true), (15, true), (11, false), (16, false), (17, true), (18, true), (19, false), (20, true), (21, true)] HO (by with_reducible (repeat (first | exact List.nil_sublist _ | apply List.Sublist.cons_cons | apply List.Sublist.cons))) (by kernel_rfl) (by kernel_rfl) ?_
        clear HO
        intro w HO
        repeat ((with_reducible apply wpSched_pure); exact rfl; exact rfl; (intro w'; go_simp; try with_reducible rfl); (simp only [Act.put, List.setIfInBounds_toArray, List.set_cons_succ, List.set_cons_zero]))
        ((with_reducible apply wpSched_loud); exact rfl; go_wp2_with ((go_at_call 13; go_must ((with_reducible refine (BA _ HO).mono ?_); rintro e w ⟨rfl, hb⟩; replace HO := HO.call hb; clear hb))))
        refine thenQ_keep (HO.held (by with_reducible (repeat (first | exact List.nil_sublist _ | apply List.Sublist.cons_cons | apply List.Sublist.cons)))) ?_
        ((with_reducible apply wpSched_loud); exact rfl; go_wp2_with ((go_at_call 17; go_must ((with_reducible refine (RA _ HO).mono ?_); rintro e w ⟨rfl, hb⟩; replace HO := HO.call hb; clear hb))))
        refine thenQ_keep (HO.held (by with_reducible (repeat (first | exact List.nil_sublist _ | apply List.Sublist.cons_cons | apply List.Sublist.cons)))) ?_
        repeat (first | ((with_reducible apply wpSched_pure); exact rfl; exact rfl; (intro w'; go_simp; try with_reducible rfl); (simp only [Act.put, List.setIfInBounds_toArray, List.set_cons_succ, List.set_cons_zero])) | ((with_reducible apply wpSched_loadAt1); exact rfl; exact rfl; exact rfl; exact (fun w' hw => old_cell (rfAt_of (hw _ (.head _))).box 0 rfl); infer_instance; exact rfl; (simp only [Act.put, List.setIfInBounds_toArray, List.set_cons_succ, List.set_cons_zero])))
        ((with_reducible apply wpSched_loud); exact rfl; go_wp2_with ((go_at_call 18; go_must ((with_reducible refine (LS _ HO).mono ?_); rintro e w ⟨v3, rfl, HO1⟩; replace HO := HO.lift HO1; clear HO1; simp only [List.cons_append, List.nil_append] at HO))))
        obtain ⟨⟨p3, c3, rfl⟩, -⟩ := HO.rowForm (v := v3) (.head _)
        rw [List.length_map] at HO ⊢
        refine thenQ_keep (HO.held (by with_reducible (repeat (first | exact List.nil_sublist _ | apply List.Sublist.cons_cons | apply List.Sublist.cons)))) ?_
        ((with_reducible apply wpSched_loud); exact rfl; go_wp2_with ((go_at_call 19; go_must ((with_reducible refine (SA _ _ _ HO).mono ?_); rintro e w ⟨rfl, hb⟩; replace HO := HO.call hb; clear hb))))
        refine thenQ_keep (HO.held (by with_reducible (repeat (first | exact List.nil_sublist _ | apply List.Sublist.cons_cons | apply List.Sublist.cons)))) ?_
        repeat ((with_reducible apply wpSched_pure); exact rfl; exact rfl; (intro w'; go_simp; try with_reducible rfl); (simp only [Act.put, List.setIfInBounds_toArray, List.set_cons_succ, List.set_cons_zero]))
        ((with_reducible apply wpSched_loud); exact rfl; go_wp2_with ((go_at_call 9; go_must ((with_reducible refine (PO _).mono ?_); rintro e w ⟨rfl, hb⟩; replace HO := HO.call hb; clear hb))))
        refine thenQ_keep (HO.held (by with_reducible (repeat (first | exact List.nil_sublist _ | apply List.Sublist.cons_cons | apply List.Sublist.cons)))) ?_
        repeat ((with_reducible apply wpSched_pure); exact rfl; exact rfl; (intro w'; go_simp; try with_reducible rfl); (simp only [Act.put, List.setIfInBounds_toArray, List.set_cons_succ, List.set_cons_zero]))
        refine wpSched_end ?_
        go_wp2_with fail
        go_ret
        exact ⟨rfl, HO.grown⟩
  · rw [hg] at GR
    go_enter Try.func5, Try.ntmps5
    go_wp2_with (first | (go_at_call 8; go_must ((with_reducible refine (GR _ HO.grown).mono ?_); rintro e w ⟨rfl, hb⟩; replace HO := HO.call hb; clear hb)) | (go_at_call 9; go_must ((with_reducible refine (PO _).mono ?_); rintro e w ⟨rfl, hb⟩; replace HO := HO.call hb; clear hb)))
    go_ret
    exact ⟨rfl, HO.grown⟩
end Go.Proofs.Ythiokpjakiidjaa

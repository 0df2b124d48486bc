/-
  The law BooksCopy returns true, by walking its text; conditions: the postings lie in memory, int64 numbers. (Printed by wip/mkbkcopy.py.)
-/
import Derived.Test.YthiokpjakiidjaaBkSm
import Derived.Test.YthiokpjakiidjaaHeld4
namespace Go.Proofs.Ythiokpjakiidjaa
open Go.RowKit Go.Own Go.Maps

def freeB (P : List Pst) (s : ByteArray) : Bool := P.all (fun x => !decide (x.id = s))
theorem freeB_take {P : List Pst} {s : ByteArray} {j : Nat} (h : j < P.length) : freeB (P.take (j + 1)) s = (freeB (P.take j) s && !decide (P[j].id = s)) := by
  unfold freeB
  rw [List.take_succ_eq_append_getElem h, List.all_append]
  simp
theorem freeB_none {P : List Pst} {s : ByteArray} (h : freeB P s = true) : findP P s = none := findP_none (fun q hq => by
  have := List.all_eq_true.1 h q hq
  simpa using this)
theorem ownPost {P : List Pst} {q : Pst} (hS : SmallL P) (hl : P.length ≤ 1000) (hq : mayPst q = true ∧ q.a ≤ 1099511627775 ∧ q.o ≤ 4) (hf : findP P q.id = none) : postE P q = 0 ∧ postL P q = P ++ [q] := by
  have h1 := small_fits hS hl hq
  simp [postE, postL, hq.1, hf, h1]

set_option maxHeartbeats 32000000 in
set_option maxRecDepth 100000 in
theorem booksCopy_any {W : World} {v0 : Value} {l : List Pst} (p : Pst) (h : IsL W 5 v0 (l.map pstC)) (hw : ∀ p ∈ l, WfP p) (hp : WfP p) :
    Calls Try.prog 7 #[v0, pstV p] W fun e w' => e = .returned (.bool true) ∧ Below W.heap.size W w' := by
  have HH := Lib.hid h
  have HW := Lib.hid hw
  have GR := fun w (hb : Below W.heap.size W w) => great_any 40 (h.below hb h.lt)
  obtain ⟨sp, sc, rfl, hmx⟩ := h.slice
  rw [List.length_map] at hmx HH GR ⊢
  have PO := fun w => posted_any w
  have HO := Own.start W
  clear h hw
  cases hg : greatB l 40
  · have h60 : l.length ≤ 40 := by
      simp only [greatB, Bool.or_eq_false_iff, decide_eq_false_iff_not] at hg
      omega
    rw [hg] at GR
    clear hg
    have SMp := fun w => small_any p w
    have hsw := small_wf hp
    have hss := smallP_small p
    generalize hq0 : smallP p = q at *
    have hqid : q.id.size ≤ p.id.size + 1 := by
      rw [← hq0]; simp only [smallP]; split
      · show 1 ≤ _; omega
      · omega
    clear hq0
    by_cases hz : p.id.size ≤ 100
    · have hzI : ¬ (100 : Int) < (p.id.size : Int) := by omega
      obtain ⟨pi, po, pd, pc, pa⟩ := p
      obtain ⟨qi, qo, qd, qc, qa⟩ := q
      simp only [pstV, pstC] at *
      have hcat : ¬ (9223372036854775807 < (⟨#[97, 110, 111, 116, 104, 101, 114, 32, 111, 110, 101, 32]⟩ : ByteArray).size + qi.size) := by
        show ¬ (9223372036854775807 < 12 + qi.size); omega
      have hcat2 : ¬ (9223372036854775807 < 12 + qi.size) := by omega
      have hqo := hsw.o
      have hqd := hsw.d
      have hsz : ((⟨#[97, 110, 111, 116, 104, 101, 114, 32, 111, 110, 101, 32]⟩ : ByteArray) ++ qi).size = 12 + qi.size := by rw [ByteArray.size_append]; rfl
      have hqm : WfP ⟨(⟨#[97, 110, 111, 116, 104, 101, 114, 32, 111, 110, 101, 32]⟩ : ByteArray) ++ qi, qo, qd, qc, qa⟩ := ⟨hsw.o, hsw.d, hsw.c, hsw.a, by show _ ≤ maxLen; rw [hsz]; unfold maxLen; omega⟩
      have hqs : mayPst ⟨(⟨#[97, 110, 111, 116, 104, 101, 114, 32, 111, 110, 101, 32]⟩ : ByteArray) ++ qi, qo, qd, qc, qa⟩ = true ∧ qa ≤ 1099511627775 ∧ qo ≤ 4 := by
        have hm := mayPst_iff.1 hss.1
        exact ⟨mayPst_iff.2 ⟨by rw [hsz]; omega, hm.2⟩, hss.2⟩
      have hqa : 0 ≤ qa := (mayPst_iff.1 hss.1).2.2.2.2.2.2.2
      have hqa2 : qa ≤ 1099511627775 := hss.2.1
      clear hsw hss hsz hp
      go_enter Try.func7, Try.ntmps7
      go_wp2_with (first | (first | go_big_skip | ((with_reducible apply wpList_loadAll HO); exact rfl; exact rfl; (repeat (with_reducible (first | exact At.head _ | apply At.tail))); infer_instance; exact rfl; exact rfl; (simp only [Act.put, List.setIfInBounds_toArray, List.set_cons_succ, List.set_cons_zero])) | ((with_reducible apply wpList_loadOne HO); exact rfl; exact rfl; (repeat (with_reducible (first | exact At.head _ | apply At.tail))); exact rfl; infer_instance; exact rfl; (simp only [Act.put, List.setIfInBounds_toArray, List.set_cons_succ, List.set_cons_zero]))) | (first | ((with_reducible apply wpList_boxAgg _ HO rfl); exact rfl; exact rfl; exact rfl; clear HO; intro b3 w HO; (simp only [Act.put, List.setIfInBounds_toArray, List.set_cons_succ, List.set_cons_zero])) | ((with_reducible apply wpList_allocAgg _ HO rfl); exact rfl; infer_instance; exact rfl; clear HO; intro b3 w HO; (simp only [Act.put, List.setIfInBounds_toArray, List.set_cons_succ, List.set_cons_zero]))) | (go_at_call 8; go_must ((with_reducible refine (GR _ HO.grown).mono ?_); rintro e w ⟨rfl, hb⟩; replace HO := HO.call hb; clear hb)) | (go_at_call 10; go_must ((with_reducible refine (bkNew_any _).mono ?_); rintro e w ⟨b, pm, bm, rfl, HO1⟩; replace HO := HO.lift HO1; clear HO1; simp only [List.cons_append, List.nil_append] at HO)))
      go_loopw [6] (fun i wr => ∃ (j : Nat) (v : Value), j ≤ l.length ∧ i = .int .i64 (j : Int) ∧ Own W wr [bkE b v pm bm (smalls (l.take j)), box b3 (.cells #[.string pi, .int .i64 po, .int .i64 pd, .int .i64 pc, .int .i64 pa] 30)]) (fun i _ => l.length - (intOf i).toNat)
      case atStart => exact ⟨0, _, by omega, rfl, HO⟩
      case round =>
        clear HO
        obtain ⟨j, v, hj, rfl, HO⟩ := hrel
        by_cases hjl : j < l.length
        · have hjI : (j : Int) < (l.length : Int) := by omega
          obtain ⟨a, rfl, hst⟩ := oldAt HH.out rfl hjl
          replace hst := Lib.hid hst
          obtain ⟨hB, hWf, hLen, hS⟩ := smalls_ok (l := l.take j) (fun p hp => HW.out p (List.mem_of_mem_take hp))
          rw [List.length_take] at hLen
          have HT := Lib.hid (smalls_take hjl)
          have SM := fun w => small_any l[j] w
          have hsw := small_wf (HW.out _ (List.getElem_mem hjl))
          generalize smallP l[j] = x at *
          generalize l[j] = p0 at *
          generalize smalls (l.take j) = P at *
          have P1 := fun (w : World) (hO : Own W w [bkE b v pm bm P, box b3 (.cells #[.string pi, .int .i64 po, .int .i64 pd, .int .i64 pc, .int .i64 pa] 30)]) => bkPost_any x hO (L' := fun v' => [bkE b v' pm bm (postL P x), box b3 (.cells #[.string pi, .int .i64 po, .int .i64 pd, .int .i64 pc, .int .i64 pa] 30)]) (fun v' => .head _) hB hsw (by omega)
          generalize postE P x = ex at *
          generalize postL P x = N at *
          clear hB hWf hLen hS hsw
          obtain ⟨xi, xo, xd, xc, xa⟩ := x
          obtain ⟨yi, yo, yd, yc, ya⟩ := p0
          simp only [pstV, pstC] at hst P1 SM
          go_wp2_with (first | (first | go_big_skip | ((with_reducible apply wpList_loadAll HO); exact rfl; exact rfl; (repeat (with_reducible (first | exact At.head _ | apply At.tail))); infer_instance; exact rfl; exact rfl; (simp only [Act.put, List.setIfInBounds_toArray, List.set_cons_succ, List.set_cons_zero])) | ((with_reducible apply wpList_loadOne HO); exact rfl; exact rfl; (repeat (with_reducible (first | exact At.head _ | apply At.tail))); exact rfl; infer_instance; exact rfl; (simp only [Act.put, List.setIfInBounds_toArray, List.set_cons_succ, List.set_cons_zero]))) | ((with_reducible apply wpList_loadAt HO); exact rfl; exact rfl; exact (fun w' h1 => hst.out w' h1.grown); infer_instance; exact rfl; exact rfl; (simp only [Act.put, List.setIfInBounds_toArray, List.set_cons_succ, List.set_cons_zero])) | (go_at_call 12; go_must ((with_reducible refine (SM _).mono ?_); rintro e w ⟨rfl, hb⟩; replace HO := HO.call hb; clear hb)) | (go_at_call 11; go_must ((with_reducible refine (P1 _ HO).mono ?_); clear HO; rintro e w ⟨rfl, v1, HO⟩)))
          go_roundw
          case rel => exact ⟨j + 1, _, by omega, by go_num, by rw [HT.out]; exact HO⟩
          case measure => simp [intOf] <;> omega
        · obtain rfl : j = l.length := by omega
          obtain ⟨hB, hWf, hLen, hS⟩ := smalls_ok (l := l) HW.out
          rw [List.take_length] at HO
          generalize smalls l = P at *
          have LB0 := fun (w : World) (hO : Own W w [bkE b v pm bm P, box b3 (.cells #[.string pi, .int .i64 po, .int .i64 pd, .int .i64 pc, .int .i64 pa] 30)]) => bkCopy_any (Own.bkAt hO (.head _)) (by omega)
          have LB1 := fun (w : World) (c pc2 bc : Nat) (vc : Value) (hO : Own W w [bkE c vc pc2 bc P, bkE b v pm bm P, box b3 (.cells #[.string pi, .int .i64 po, .int .i64 pd, .int .i64 pc, .int .i64 pa] 30)]) => bkList_any (Own.bkAt hO (.tail _ _ _ (.head _))) (by omega)
          have hbd := fun n o => bal_bound hS n o
          have hpost := fun hf => ownPost hS (by omega) hqs hf
          replace hpost := Lib.hid hpost
          replace hbd := hbd
          go_upto_region 10 with (first | (first | go_big_skip | ((with_reducible apply wpList_loadAll HO); exact rfl; exact rfl; (repeat (with_reducible (first | exact At.head _ | apply At.tail))); infer_instance; exact rfl; exact rfl; (simp only [Act.put, List.setIfInBounds_toArray, List.set_cons_succ, List.set_cons_zero])) | ((with_reducible apply wpList_loadOne HO); exact rfl; exact rfl; (repeat (with_reducible (first | exact At.head _ | apply At.tail))); exact rfl; infer_instance; exact rfl; (simp only [Act.put, List.setIfInBounds_toArray, List.set_cons_succ, List.set_cons_zero]))) | (go_at_call 20; go_must ((with_reducible refine (LB0 _ HO).mono ?_); rintro e w ⟨c, vc, pc2, bc, rfl, HO1⟩; replace HO := HO.lift HO1; clear HO1; simp only [List.cons_append, List.nil_append] at HO)) | (go_at_call 18; go_must ((with_reducible refine (LB1 _ _ _ _ _ HO).mono ?_); rintro e w ⟨v3, rfl, HO1⟩; replace HO := HO.lift HO1; clear HO1; simp only [List.cons_append, List.nil_append] at HO)))
          clear LB0 LB1
          obtain ⟨⟨p3, c3, rfl⟩, -⟩ := HO.rowForm (v := v3) (.head _)
          rw [List.length_map] at HO ⊢
          replace HO : Own W w [row 30 5 (.slice p3 P.length c3) (P.map pstC), bkE c vc pc2 bc P, box b3 (.cells #[.string pi, .int .i64 po, .int .i64 pd, .int .i64 pc, .int .i64 pa] 30), bkE b v pm bm P] := HO.perm (((List.Perm.swap _ _ []).cons _).cons _)
          go_upto_region 12 with (first | (first | go_big_skip | ((with_reducible apply wpList_loadAll HO); exact rfl; exact rfl; (repeat (with_reducible (first | exact At.head _ | apply At.tail))); infer_instance; exact rfl; exact rfl; (simp only [Act.put, List.setIfInBounds_toArray, List.set_cons_succ, List.set_cons_zero])) | ((with_reducible apply wpList_loadOne HO); exact rfl; exact rfl; (repeat (with_reducible (first | exact At.head _ | apply At.tail))); exact rfl; infer_instance; exact rfl; (simp only [Act.put, List.setIfInBounds_toArray, List.set_cons_succ, List.set_cons_zero]))) | ((with_reducible apply wpList_storeAll HO); exact rfl; exact rfl; exact rfl; (repeat (with_reducible (first | exact At.head _ | apply At.tail))); infer_instance; exact rfl; exact rfl; exact rfl; exact rfl; clear HO; intro w HO; (simp only [Act.put])) | ((with_reducible apply wpList_storeOne HO); exact rfl; exact rfl; (first | (simp [Act.eval]; rfl) | exact rfl); exact rfl; (repeat (with_reducible (first | exact At.head _ | apply At.tail))); infer_instance; exact (by simp); (simp only [List.set_cons_succ, List.set_cons_zero]; rfl); exact rfl; clear HO; intro w HO; (simp only [Act.put])) | (go_at_call 12; go_must ((with_reducible refine (SMp _).mono ?_); rintro e w ⟨rfl, hb⟩; replace HO := HO.call hb; clear hb)))
          generalize hs : (⟨#[97, 110, 111, 116, 104, 101, 114, 32, 111, 110, 101, 32]⟩ : ByteArray) ++ qi = s at *
          replace hs := Lib.hid hs
          go_wp2_with fail
          go_loopw [9, 10] (fun f i wr => ∃ k : Nat, k ≤ P.length ∧ i = .int .i64 (k : Int) ∧ f = .bool (freeB (P.take k) s) ∧ Own W wr [row 30 5 (.slice p3 P.length c3) (P.map pstC), bkE c vc pc2 bc P, box b3 (.cells #[.string s, .int .i64 qo, .int .i64 qd, .int .i64 qc, .int .i64 qa] 30), bkE b v pm bm P]) (fun _ i _ => P.length - (intOf i).toNat)
          case atStart => exact ⟨0, by omega, rfl, rfl, HO⟩
          case round =>
            clear HO
            obtain ⟨k, hk, rfl, rfl, HO⟩ := hrel
            by_cases hkl : k < P.length
            · have hkI : (k : Int) < (P.length : Int) := by omega
              obtain ⟨p4, c4, hsl⟩ := (HO.rowForm (v := .slice p3 P.length c3) (.head _)).2 (by rw [List.length_map]; omega)
              obtain ⟨rfl, -, rfl⟩ : p3 = some p4 ∧ P.length = (P.map pstC).length ∧ c3 = c4 := by simpa using hsl
              clear hsl
              have hget : (P.map pstC)[k]? = some (pstC P[k]) := by simp [hkl]
              have HA := Lib.hid (fun w' (h1 : Own W w' [row 30 5 (.slice (some p4) P.length c3) (P.map pstC), bkE c vc pc2 bc P, box b3 (.cells #[.string s, .int .i64 qo, .int .i64 qd, .int .i64 qc, .int .i64 qa] 30), bkE b v pm bm P]) => h1.rowAt (.head _) (pstC_len P) hget 0 _ rfl)
              have HF := Lib.hid (freeB_take (s := s) hkl)
              have hse := str_eq_iff P[k].id s
              have hsn : (P[k].id.toList != s.toList) = !decide (P[k].id = s) := by rw [← hse]; rfl
              clear hget
              generalize P[k].id = x at *
              generalize decide (x = s) = y at *
              generalize freeB (P.take k) s = fr at *
              cases fr <;> cases y
              all_goals
                go_wp2_with fail
                refine region_own HO (by kernel_rfl) (by kernel_rfl) ?_
                clear HO
                intro F HF
                repeat (first | (first | (first | go_big_quiet_skip | ((with_reducible apply wpQuiet_loadAll HF); exact rfl; exact rfl; (repeat (with_reducible (first | exact At.head _ | apply At.tail))); infer_instance; exact rfl; exact rfl; (simp only [Act.put, List.setIfInBounds_toArray, List.set_cons_succ, List.set_cons_zero])) | ((with_reducible apply wpQuiet_loadOne HF); exact rfl; exact rfl; (repeat (with_reducible (first | exact At.head _ | apply At.tail))); exact rfl; infer_instance; exact rfl; (simp only [Act.put, List.setIfInBounds_toArray, List.set_cons_succ, List.set_cons_zero])) | ((with_reducible apply wpQuiet_loadPart HF); exact rfl; exact rfl; (repeat (with_reducible (first | exact At.head _ | apply At.tail))); infer_instance; exact (Nat.le_of_ble_eq_true rfl); (simp only [List.drop_succ_cons, List.drop_zero, List.take_succ_cons, List.take_zero]; rfl); exact rfl; (simp only [Act.put, List.setIfInBounds_toArray, List.set_cons_succ, List.set_cons_zero]))) | ((with_reducible apply wpQuiet_loadAt1 HF); exact rfl; exact rfl; exact (fun w' h1 => HA.out w' h1); infer_instance; exact rfl; (simp only [Act.put, List.setIfInBounds_toArray, List.set_cons_succ, List.set_cons_zero])) | ((with_reducible apply wpQuiet_loadAt1 HF); exact rfl; exact rfl; exact (fun w' h1 => add0 _ ▸ HA.out w' h1); infer_instance; exact rfl; (simp only [Act.put, List.setIfInBounds_toArray, List.set_cons_succ, List.set_cons_zero]))) | go_big_quiet_step (fail))
                refine wpQuiet_nil ?_
                intro x
                have HO := HF.own x
                clear HF
                generalize F x = w at *
                clear x F
                go_wp2_with fail
                go_roundw
                case rel => exact ⟨k + 1, by omega, by go_num, by rw [HF.out]; rfl, HO⟩
                case measure => simp [intOf] <;> omega
            · obtain rfl : k = P.length := by omega
              rw [List.take_length] at *
              have LC := fun (w : World) (hO : Own W w [row 30 5 (.slice p3 P.length c3) (P.map pstC), bkE c vc pc2 bc P, box b3 (.cells #[.string s, .int .i64 qo, .int .i64 qd, .int .i64 qc, .int .i64 qa] 30), bkE b v pm bm P]) => bkList_any (Own.bkAt hO (.tail _ _ _ (.head _))) (by omega)
              have SC := fun (w : World) (p5 : Option Addr) (c5 : Nat) (hO : Own W w [row 30 5 (.slice p5 P.length c5) (P.map pstC), row 30 5 (.slice p3 P.length c3) (P.map pstC), bkE c vc pc2 bc P, box b3 (.cells #[.string s, .int .i64 qo, .int .i64 qd, .int .i64 qc, .int .i64 qa] 30), bkE b v pm bm P]) => same_any (isL_of_owns (pstC_len P) (hO.has _ (.head _))) (isL_of_owns (pstC_len P) (hO.has _ (.tail _ (.head _))))
              rw [decide_eq_true rfl] at SC
              cases hfr : freeB P s
              · clear hfr hB hWf hS hqm hqs
                go_upto_region 17 with (first | (first | go_big_skip | ((with_reducible apply wpList_loadAll HO); exact rfl; exact rfl; (repeat (with_reducible (first | exact At.head _ | apply At.tail))); infer_instance; exact rfl; exact rfl; (simp only [Act.put, List.setIfInBounds_toArray, List.set_cons_succ, List.set_cons_zero])) | ((with_reducible apply wpList_loadOne HO); exact rfl; exact rfl; (repeat (with_reducible (first | exact At.head _ | apply At.tail))); exact rfl; infer_instance; exact rfl; (simp only [Act.put, List.setIfInBounds_toArray, List.set_cons_succ, List.set_cons_zero]))))
                go_upto_region 19 with (first | (first | go_big_skip | ((with_reducible apply wpList_loadAll HO); exact rfl; exact rfl; (repeat (with_reducible (first | exact At.head _ | apply At.tail))); infer_instance; exact rfl; exact rfl; (simp only [Act.put, List.setIfInBounds_toArray, List.set_cons_succ, List.set_cons_zero])) | ((with_reducible apply wpList_loadOne HO); exact rfl; exact rfl; (repeat (with_reducible (first | exact At.head _ | apply At.tail))); exact rfl; infer_instance; exact rfl; (simp only [Act.put, List.setIfInBounds_toArray, List.set_cons_succ, List.set_cons_zero]))) | (go_at_call 18; go_must ((with_reducible refine (LC _ HO).mono ?_); rintro e w ⟨v5, rfl, HO1⟩; replace HO := HO.lift HO1; clear HO1; simp only [List.cons_append, List.nil_append] at HO; (obtain ⟨⟨p5, c5, rfl⟩, -⟩ := HO.rowForm (v := v5) (.head _)); rw [List.length_map] at HO ⊢)) | (go_at_call 19; go_must ((with_reducible refine (SC _ _ _ HO).mono ?_); rintro e w ⟨rfl, hb⟩; replace HO := HO.call hb; clear hb)))
                replace HO := HO.tail
                clear SC LC
                have LB := fun (w : World) (hO : Own W w [row 30 5 (.slice p3 P.length c3) (P.map pstC), bkE c vc pc2 bc P, box b3 (.cells #[.string s, .int .i64 qo, .int .i64 qd, .int .i64 qc, .int .i64 qa] 30), bkE b v pm bm P]) => bkList_any (Own.bkAt hO (.tail _ _ _ (.tail _ _ _ (.tail _ _ _ (.head _))))) (by omega)
                have SB := fun (w : World) (p4 : Option Addr) (c4 : Nat) (hO : Own W w (row 30 5 (.slice p4 P.length c4) (P.map pstC) :: [row 30 5 (.slice p3 P.length c3) (P.map pstC), bkE c vc pc2 bc P, box b3 (.cells #[.string s, .int .i64 qo, .int .i64 qd, .int .i64 qc, .int .i64 qa] 30), bkE b v pm bm P])) => same_any (isL_of_owns (pstC_len P) (hO.has _ (.head _))) (isL_of_owns (pstC_len P) (hO.has _ (.tail _ (.head _))))
                rw [decide_eq_true rfl] at SB
                refine region_sched ([box b3 (.cells #[.string s, .int .i64 qo, .int .i64 qd, .int .i64 qc, .int .i64 qa] 30)]) [(0, true), (2, true), (1, false), (3, false), (4, true), (5, true), (6, true), (7, true), (8, true), (10, true), (9, false), (11, false), (12, true), (13, true), (14, true), (15, true), (16, true), (17, true), (18, true), (19, true), (21, true), (22, true), (23, true), (24, true), (25, true), (27, true), (28, true), (20, false), (26, false), (29, true), (30, true), (31, true), (32, true), (33, true), (34, true), (35, false), (36, true), (37, true)] HO (by with_reducible (repeat (first | exact List.nil_sublist _ | apply List.Sublist.cons_cons | apply List.Sublist.cons))) (by kernel_rfl) (by kernel_rfl) ?_
                clear HO
                intro w HO
                repeat ((with_reducible apply wpHeld_pure); exact rfl; exact rfl; (intro w'; go_simp; try with_reducible rfl); (simp only [Act.put, List.setIfInBounds_toArray, List.set_cons_succ, List.set_cons_zero]))
                ((with_reducible apply wpHeld_loud); exact rfl; go_wp2_with ((go_at_call 18; go_must ((with_reducible refine (LB _ HO).mono ?_); rintro e w ⟨v7, rfl, HO1⟩; replace HO := HO.lift HO1; clear HO1; simp only [List.cons_append, List.nil_append] at HO))))
                obtain ⟨⟨p4, c4, rfl⟩, -⟩ := HO.rowForm (v := v7) (.head _)
                rw [List.length_map] at HO ⊢
                refine ⟨HO.held (by with_reducible (repeat (first | exact List.nil_sublist _ | apply List.Sublist.cons_cons | apply List.Sublist.cons))), ?_⟩
                ((with_reducible apply wpHeld_loud); exact rfl; go_wp2_with ((go_at_call 19; go_must ((with_reducible refine (SB _ _ _ HO).mono ?_); rintro e w ⟨rfl, hb⟩; replace HO := HO.call hb; clear hb))))
                refine ⟨HO.held (by with_reducible (repeat (first | exact List.nil_sublist _ | apply List.Sublist.cons_cons | apply List.Sublist.cons))), ?_⟩
                repeat (first | ((with_reducible apply wpHeld_pure); exact rfl; exact rfl; (intro w'; go_simp; try with_reducible rfl); (simp only [Act.put, List.setIfInBounds_toArray, List.set_cons_succ, List.set_cons_zero])) | ((with_reducible apply wpHeld_skip); exact rfl; exact rfl; (simp only [Act.put, List.setIfInBounds_toArray, List.set_cons_succ, List.set_cons_zero])))
                ((with_reducible apply wpHeld_loud); exact rfl; go_big_skip)
                refine wpList_nil ⟨HO.held (by with_reducible (repeat (first | exact List.nil_sublist _ | apply List.Sublist.cons_cons | apply List.Sublist.cons))), ?_⟩
                ((with_reducible apply wpHeld_loud); exact rfl; go_big_skip)
                refine wpList_nil ⟨HO.held (by with_reducible (repeat (first | exact List.nil_sublist _ | apply List.Sublist.cons_cons | apply List.Sublist.cons))), ?_⟩
                repeat (first | ((with_reducible apply wpHeld_pure); exact rfl; exact rfl; (intro w'; go_simp; try with_reducible rfl); (simp only [Act.put, List.setIfInBounds_toArray, List.set_cons_succ, List.set_cons_zero])) | ((with_reducible apply wpHeld_skip); exact rfl; exact rfl; (simp only [Act.put, List.setIfInBounds_toArray, List.set_cons_succ, List.set_cons_zero])))
                ((with_reducible apply wpHeld_loud); exact rfl; go_big_skip)
                refine wpList_nil ⟨HO.held (by with_reducible (repeat (first | exact List.nil_sublist _ | apply List.Sublist.cons_cons | apply List.Sublist.cons))), ?_⟩
                ((with_reducible apply wpHeld_loud); exact rfl; go_big_skip)
                refine wpList_nil ⟨HO.held (by with_reducible (repeat (first | exact List.nil_sublist _ | apply List.Sublist.cons_cons | apply List.Sublist.cons))), ?_⟩
                repeat (first | ((with_reducible apply wpHeld_pure); exact rfl; exact rfl; (intro w'; go_simp; try with_reducible rfl); (simp only [Act.put, List.setIfInBounds_toArray, List.set_cons_succ, List.set_cons_zero])) | ((with_reducible apply wpHeld_skip); exact rfl; exact rfl; (simp only [Act.put, List.setIfInBounds_toArray, List.set_cons_succ, List.set_cons_zero])))
                ((with_reducible apply wpHeld_loud); exact rfl; go_wp2_with ((go_at_call 9; go_must ((with_reducible refine (PO _).mono ?_); rintro e w ⟨rfl, hb⟩; replace HO := HO.call hb; clear hb))))
                refine ⟨HO.held (by with_reducible (repeat (first | exact List.nil_sublist _ | apply List.Sublist.cons_cons | apply List.Sublist.cons))), ?_⟩
                repeat ((with_reducible apply wpHeld_pure); exact rfl; exact rfl; (intro w'; go_simp; try with_reducible rfl); (simp only [Act.put, List.setIfInBounds_toArray, List.set_cons_succ, List.set_cons_zero]))
                refine wpHeld_end ?_
                go_wp2_with fail
                go_ret
                exact ⟨rfl, HO.grown⟩
              · have hpo := hpost.out (freeB_none hfr)
                have PC := fun (w : World) (E : Ent) (hO : Own W w [E, row 30 5 (.slice p3 P.length c3) (P.map pstC), bkE c vc pc2 bc P, box b3 (.cells #[.string s, .int .i64 qo, .int .i64 qd, .int .i64 qc, .int .i64 qa] 30), bkE b v pm bm P]) => bkPost_any ⟨s, qo, qd, qc, qa⟩ hO (L' := fun v' => [E, row 30 5 (.slice p3 P.length c3) (P.map pstC), bkE c v' pc2 bc (postL P ⟨s, qo, qd, qc, qa⟩), box b3 (.cells #[.string s, .int .i64 qo, .int .i64 qd, .int .i64 qc, .int .i64 qa] 30), bkE b v pm bm P]) (fun v' => .tail _ _ _ (.tail _ _ _ (.head _))) hB hqm (by omega)
                rw [hpo.1, hpo.2] at PC
                simp only [pstV, pstC] at PC
                clear hpo hfr hB hWf hS hqm hqs
                go_upto_region 17 with (first | (first | go_big_skip | ((with_reducible apply wpList_loadAll HO); exact rfl; exact rfl; (repeat (with_reducible (first | exact At.head _ | apply At.tail))); infer_instance; exact rfl; exact rfl; (simp only [Act.put, List.setIfInBounds_toArray, List.set_cons_succ, List.set_cons_zero])) | ((with_reducible apply wpList_loadOne HO); exact rfl; exact rfl; (repeat (with_reducible (first | exact At.head _ | apply At.tail))); exact rfl; infer_instance; exact rfl; (simp only [Act.put, List.setIfInBounds_toArray, List.set_cons_succ, List.set_cons_zero]))))
                go_upto_region 19 with (first | (first | go_big_skip | ((with_reducible apply wpList_loadAll HO); exact rfl; exact rfl; (repeat (with_reducible (first | exact At.head _ | apply At.tail))); infer_instance; exact rfl; exact rfl; (simp only [Act.put, List.setIfInBounds_toArray, List.set_cons_succ, List.set_cons_zero])) | ((with_reducible apply wpList_loadOne HO); exact rfl; exact rfl; (repeat (with_reducible (first | exact At.head _ | apply At.tail))); exact rfl; infer_instance; exact rfl; (simp only [Act.put, List.setIfInBounds_toArray, List.set_cons_succ, List.set_cons_zero]))) | (go_at_call 18; go_must ((with_reducible refine (LC _ HO).mono ?_); rintro e w ⟨v5, rfl, HO1⟩; replace HO := HO.lift HO1; clear HO1; simp only [List.cons_append, List.nil_append] at HO; (obtain ⟨⟨p5, c5, rfl⟩, -⟩ := HO.rowForm (v := v5) (.head _)); rw [List.length_map] at HO ⊢)) | (go_at_call 19; go_must ((with_reducible refine (SC _ _ _ HO).mono ?_); rintro e w ⟨rfl, hb⟩; replace HO := HO.call hb; clear hb)) | (go_at_call 11; go_must ((with_reducible refine (PC _ _ HO).mono ?_); clear HO; rintro e w ⟨rfl, vc, HO⟩)))
                replace HO := HO.tail
                clear SC LC PC
                have LB := fun (w : World) (hO : Own W w [row 30 5 (.slice p3 P.length c3) (P.map pstC), bkE c vc pc2 bc (P ++ [⟨s, qo, qd, qc, qa⟩]), box b3 (.cells #[.string s, .int .i64 qo, .int .i64 qd, .int .i64 qc, .int .i64 qa] 30), bkE b v pm bm P]) => bkList_any (Own.bkAt hO (.tail _ _ _ (.tail _ _ _ (.tail _ _ _ (.head _))))) (by omega)
                have SB := fun (w : World) (p4 : Option Addr) (c4 : Nat) (hO : Own W w (row 30 5 (.slice p4 P.length c4) (P.map pstC) :: [row 30 5 (.slice p3 P.length c3) (P.map pstC), bkE c vc pc2 bc (P ++ [⟨s, qo, qd, qc, qa⟩]), box b3 (.cells #[.string s, .int .i64 qo, .int .i64 qd, .int .i64 qc, .int .i64 qa] 30), bkE b v pm bm P])) => same_any (isL_of_owns (pstC_len P) (hO.has _ (.head _))) (isL_of_owns (pstC_len P) (hO.has _ (.tail _ (.head _))))
                rw [decide_eq_true rfl] at SB
                have MC := fun (w : World) (E : Ent) (hO : Own W w (E :: [row 30 5 (.slice p3 P.length c3) (P.map pstC), bkE c vc pc2 bc (P ++ [⟨s, qo, qd, qc, qa⟩]), box b3 (.cells #[.string s, .int .i64 qo, .int .i64 qd, .int .i64 qc, .int .i64 qa] 30), bkE b v pm bm P])) => bkMany_any (Own.bkAt hO (.tail _ _ _ (.tail _ _ _ (.head _))))
                have MB := fun (w : World) (E : Ent) (hO : Own W w (E :: [row 30 5 (.slice p3 P.length c3) (P.map pstC), bkE c vc pc2 bc (P ++ [⟨s, qo, qd, qc, qa⟩]), box b3 (.cells #[.string s, .int .i64 qo, .int .i64 qd, .int .i64 qc, .int .i64 qa] 30), bkE b v pm bm P])) => bkMany_any (Own.bkAt hO (.tail _ _ _ (.tail _ _ _ (.tail _ _ _ (.tail _ _ _ (.head _))))))
                have BC := fun (w : World) (E : Ent) (hO : Own W w (E :: [row 30 5 (.slice p3 P.length c3) (P.map pstC), bkE c vc pc2 bc (P ++ [⟨s, qo, qd, qc, qa⟩]), box b3 (.cells #[.string s, .int .i64 qo, .int .i64 qd, .int .i64 qc, .int .i64 qa] 30), bkE b v pm bm P])) => bkBal_any (Own.bkAt hO (.tail _ _ _ (.tail _ _ _ (.head _)))) hqd hqo
                have BB := fun (w : World) (E : Ent) (hO : Own W w (E :: [row 30 5 (.slice p3 P.length c3) (P.map pstC), bkE c vc pc2 bc (P ++ [⟨s, qo, qd, qc, qa⟩]), box b3 (.cells #[.string s, .int .i64 qo, .int .i64 qd, .int .i64 qc, .int .i64 qa] 30), bkE b v pm bm P])) => bkBal_any (Own.bkAt hO (.tail _ _ _ (.tail _ _ _ (.tail _ _ _ (.tail _ _ _ (.head _)))))) hqd hqo
                have e1 : bal (P ++ [⟨s, qo, qd, qc, qa⟩]) qd qo = bal P qd qo + qa := by rw [bal_snoc]; congr 1; simp [delta]
                have e2 : ((P ++ [(⟨s, qo, qd, qc, qa⟩ : Pst)]).length : Int) = (P.length : Int) + 1 := by simp
                have hbd := hbd qd qo
                rw [e1] at BC
                rw [e2] at MC
                have w1 : IntKind.i64.wrap (bal P qd qo + qa) = bal P qd qo + qa := by rw [IntKind.wrap_i64]; omega
                have w2 : IntKind.i64.wrap ((P.length : Int) + 1) = (P.length : Int) + 1 := by rw [IntKind.wrap_i64]; omega
                generalize bal P qd qo = z0 at *
                clear e1 e2 hbd
                generalize P ++ [(⟨s, qo, qd, qc, qa⟩ : Pst)] = P' at *
                refine region_sched ([box b3 (.cells #[.string s, .int .i64 qo, .int .i64 qd, .int .i64 qc, .int .i64 qa] 30)]) [(0, true), (2, true), (1, false), (3, false), (4, true), (5, true), (6, true), (7, true), (8, true), (10, true), (9, false), (11, false), (12, true), (13, true), (14, true), (15, true), (16, true), (17, true), (18, true), (19, true), (21, true), (22, true), (23, true), (24, true), (25, true), (27, true), (28, true), (20, false), (26, false), (29, true), (30, true), (31, true), (32, true), (33, true), (34, true), (35, false), (36, true), (37, true)] HO (by with_reducible (repeat (first | exact List.nil_sublist _ | apply List.Sublist.cons_cons | apply List.Sublist.cons))) (by kernel_rfl) (by kernel_rfl) ?_
                clear HO
                intro w HO
                repeat ((with_reducible apply wpHeld_pure); exact rfl; exact rfl; (intro w'; go_simp; try with_reducible rfl); (simp only [Act.put, List.setIfInBounds_toArray, List.set_cons_succ, List.set_cons_zero]))
                ((with_reducible apply wpHeld_loud); exact rfl; go_wp2_with ((go_at_call 18; go_must ((with_reducible refine (LB _ HO).mono ?_); rintro e w ⟨v7, rfl, HO1⟩; replace HO := HO.lift HO1; clear HO1; simp only [List.cons_append, List.nil_append] at HO))))
                obtain ⟨⟨p4, c4, rfl⟩, -⟩ := HO.rowForm (v := v7) (.head _)
                rw [List.length_map] at HO ⊢
                refine ⟨HO.held (by with_reducible (repeat (first | exact List.nil_sublist _ | apply List.Sublist.cons_cons | apply List.Sublist.cons))), ?_⟩
                ((with_reducible apply wpHeld_loud); exact rfl; go_wp2_with ((go_at_call 19; go_must ((with_reducible refine (SB _ _ _ HO).mono ?_); rintro e w ⟨rfl, hb⟩; replace HO := HO.call hb; clear hb))))
                refine ⟨HO.held (by with_reducible (repeat (first | exact List.nil_sublist _ | apply List.Sublist.cons_cons | apply List.Sublist.cons))), ?_⟩
                repeat (first | ((with_reducible apply wpHeld_loadOne); exact rfl; exact rfl; exact rfl; (repeat (with_reducible (first | exact At.head _ | apply At.tail))); exact rfl; infer_instance; exact rfl; (simp only [Act.put, List.setIfInBounds_toArray, List.set_cons_succ, List.set_cons_zero])) | ((with_reducible apply wpHeld_pure); exact rfl; exact rfl; (intro w'; go_simp; try with_reducible rfl); (simp only [Act.put, List.setIfInBounds_toArray, List.set_cons_succ, List.set_cons_zero])))
                ((with_reducible apply wpHeld_loud); exact rfl; go_wp2_with ((go_at_call 15; go_must ((with_reducible refine (MC _ _ HO).mono ?_); rintro e w ⟨rfl, hb⟩; replace HO := HO.call hb; clear hb))))
                refine ⟨HO.held (by with_reducible (repeat (first | exact List.nil_sublist _ | apply List.Sublist.cons_cons | apply List.Sublist.cons))), ?_⟩
                ((with_reducible apply wpHeld_loud); exact rfl; go_wp2_with ((go_at_call 15; go_must ((with_reducible refine (MB _ _ HO).mono ?_); rintro e w ⟨rfl, hb⟩; replace HO := HO.call hb; clear hb))))
                refine ⟨HO.held (by with_reducible (repeat (first | exact List.nil_sublist _ | apply List.Sublist.cons_cons | apply List.Sublist.cons))), ?_⟩
                repeat (first | ((with_reducible apply wpHeld_loadOne); exact rfl; exact rfl; exact rfl; (repeat (with_reducible (first | exact At.head _ | apply At.tail))); exact rfl; infer_instance; exact rfl; (simp only [Act.put, List.setIfInBounds_toArray, List.set_cons_succ, List.set_cons_zero])) | ((with_reducible apply wpHeld_pure); exact rfl; exact rfl; (intro w'; go_simp; try with_reducible rfl); (simp only [Act.put, List.setIfInBounds_toArray, List.set_cons_succ, List.set_cons_zero])))
                ((with_reducible apply wpHeld_loud); exact rfl; go_wp2_with ((go_at_call 13; go_must ((with_reducible refine (BC _ _ HO).mono ?_); rintro e w ⟨rfl, hb⟩; replace HO := HO.call hb; clear hb))))
                refine ⟨HO.held (by with_reducible (repeat (first | exact List.nil_sublist _ | apply List.Sublist.cons_cons | apply List.Sublist.cons))), ?_⟩
                ((with_reducible apply wpHeld_loud); exact rfl; go_wp2_with ((go_at_call 13; go_must ((with_reducible refine (BB _ _ HO).mono ?_); rintro e w ⟨rfl, hb⟩; replace HO := HO.call hb; clear hb))))
                refine ⟨HO.held (by with_reducible (repeat (first | exact List.nil_sublist _ | apply List.Sublist.cons_cons | apply List.Sublist.cons))), ?_⟩
                repeat (first | ((with_reducible apply wpHeld_loadOne); exact rfl; exact rfl; exact rfl; (repeat (with_reducible (first | exact At.head _ | apply At.tail))); exact rfl; infer_instance; exact rfl; (simp only [Act.put, List.setIfInBounds_toArray, List.set_cons_succ, List.set_cons_zero])) | ((with_reducible apply wpHeld_pure); exact rfl; exact rfl; (intro w'; go_simp; try with_reducible rfl); (simp only [Act.put, List.setIfInBounds_toArray, List.set_cons_succ, List.set_cons_zero])))
                ((with_reducible apply wpHeld_loud); exact rfl; go_wp2_with ((go_at_call 9; go_must ((with_reducible refine (PO _).mono ?_); rintro e w ⟨rfl, hb⟩; replace HO := HO.call hb; clear hb))))
                refine ⟨HO.held (by with_reducible (repeat (first | exact List.nil_sublist _ | apply List.Sublist.cons_cons | apply List.Sublist.cons))), ?_⟩
                repeat ((with_reducible apply wpHeld_pure); exact rfl; exact rfl; (intro w'; go_simp; try with_reducible rfl); (simp only [Act.put, List.setIfInBounds_toArray, List.set_cons_succ, List.set_cons_zero]))
                refine wpHeld_end ?_
                go_wp2_with fail
                go_ret
                exact ⟨rfl, HO.grown⟩
    · have hzI : (100 : Int) < (p.id.size : Int) := by omega
      obtain ⟨pi, po, pd, pc, pa⟩ := p
      simp only [pstV, pstC] at *
      go_enter Try.func7, Try.ntmps7
      go_wp2_with (first | (first | go_big_skip | ((with_reducible apply wpList_loadAll HO); exact rfl; exact rfl; (repeat (with_reducible (first | exact At.head _ | apply At.tail))); infer_instance; exact rfl; exact rfl; (simp only [Act.put, List.setIfInBounds_toArray, List.set_cons_succ, List.set_cons_zero])) | ((with_reducible apply wpList_loadOne HO); exact rfl; exact rfl; (repeat (with_reducible (first | exact At.head _ | apply At.tail))); exact rfl; infer_instance; exact rfl; (simp only [Act.put, List.setIfInBounds_toArray, List.set_cons_succ, List.set_cons_zero]))) | (first | ((with_reducible apply wpList_boxAgg _ HO rfl); exact rfl; exact rfl; exact rfl; clear HO; intro b3 w HO; (simp only [Act.put, List.setIfInBounds_toArray, List.set_cons_succ, List.set_cons_zero])) | ((with_reducible apply wpList_allocAgg _ HO rfl); exact rfl; infer_instance; exact rfl; clear HO; intro b3 w HO; (simp only [Act.put, List.setIfInBounds_toArray, List.set_cons_succ, List.set_cons_zero]))) | (go_at_call 8; go_must ((with_reducible refine (GR _ HO.grown).mono ?_); rintro e w ⟨rfl, hb⟩; replace HO := HO.call hb; clear hb)) | (go_at_call 9; go_must ((with_reducible refine (PO _).mono ?_); rintro e w ⟨rfl, hb⟩; replace HO := HO.call hb; clear hb)))
      go_ret
      exact ⟨rfl, HO.grown⟩
  · rw [hg] at GR
    obtain ⟨pi, po, pd, pc, pa⟩ := p
    simp only [pstV, pstC]
    go_enter Try.func7, Try.ntmps7
    go_wp2_with (first | (first | go_big_skip | ((with_reducible apply wpList_loadAll HO); exact rfl; exact rfl; (repeat (with_reducible (first | exact At.head _ | apply At.tail))); infer_instance; exact rfl; exact rfl; (simp only [Act.put, List.setIfInBounds_toArray, List.set_cons_succ, List.set_cons_zero])) | ((with_reducible apply wpList_loadOne HO); exact rfl; exact rfl; (repeat (with_reducible (first | exact At.head _ | apply At.tail))); exact rfl; infer_instance; exact rfl; (simp only [Act.put, List.setIfInBounds_toArray, List.set_cons_succ, List.set_cons_zero]))) | (first | ((with_reducible apply wpList_boxAgg _ HO rfl); exact rfl; exact rfl; exact rfl; clear HO; intro b3 w HO; (simp only [Act.put, List.setIfInBounds_toArray, List.set_cons_succ, List.set_cons_zero])) | ((with_reducible apply wpList_allocAgg _ HO rfl); exact rfl; infer_instance; exact rfl; clear HO; intro b3 w HO; (simp only [Act.put, List.setIfInBounds_toArray, List.set_cons_succ, List.set_cons_zero]))) | (go_at_call 8; go_must ((with_reducible refine (GR _ HO.grown).mono ?_); rintro e w ⟨rfl, hb⟩; replace HO := HO.call hb; clear hb)) | (go_at_call 9; go_must ((with_reducible refine (PO _).mono ?_); rintro e w ⟨rfl, hb⟩; replace HO := HO.call hb; clear hb)))
    go_ret
    exact ⟨rfl, HO.grown⟩
end Go.Proofs.Ythiokpjakiidjaa

/-
  New books, and what a posting moves, by walking the program's text; conditions: int64 numbers. (Printed by wip/mkbk.py.)
-/
import Derived.Test.YthiokpjakiidjaaBkE
import Derived.Deep.DeepCutAuto
import Derived.Deep.CutBlock
namespace Go.Proofs.Ythiokpjakiidjaa
open Go.RowKit Go.Own Go.Maps

set_option maxHeartbeats 4000000 in
theorem bkNew_any (W : World) : Calls Try.prog 10 #[] W fun e w' => ∃ b pm bm, e = .returned (.pointer (some ⟨b, 0, none⟩)) ∧ Own W w' [bkE b (.slice none 0 0) pm bm []] := by
  have HO := Own.start W
  go_enter Try.func10, Try.ntmps10
  go_wp2_with (first | ((with_reducible apply wpList_makeMap HO (kt := 9) (mt := 43)); exact rfl; exact rfl; clear HO; intro pm w HO; (simp only [Act.put, List.setIfInBounds_toArray, List.set_cons_succ, List.set_cons_zero])) | ((with_reducible apply wpList_makeMap HO (kt := 55) (mt := 44)); exact rfl; exact rfl; clear HO; intro bm w HO; (simp only [Act.put, List.setIfInBounds_toArray, List.set_cons_succ, List.set_cons_zero])) | (first | ((with_reducible apply wpList_boxAgg _ HO rfl); exact rfl; exact rfl; exact rfl; clear HO; intro b1 w HO; (simp only [Act.put, List.setIfInBounds_toArray, List.set_cons_succ, List.set_cons_zero])) | ((with_reducible apply wpList_allocAgg _ HO rfl); exact rfl; infer_instance; exact rfl; clear HO; intro b1 w HO; (simp only [Act.put, List.setIfInBounds_toArray, List.set_cons_succ, List.set_cons_zero]))) | go_big_skip)
  go_ret
  refine ⟨b1, pm, bm, rfl, ?_⟩
  have h1 := (HO.nil 30 5).swap
  have h2 := Own.idClose (h1.perm ((List.Perm.swap _ _ _).cons _ |>.cons _)) (l := []) (.tail _ _ _ (.tail _ _ _ (.head _))) (Nat.zero_le _) (fun s _ => rfl)
  have h3 := Own.balClose h2 (l := []) (.tail _ _ _ (.tail _ _ _ (.tail _ _ _ (.head _)))) (Nat.zero_le _) (fun n o _ _ => rfl)
  exact Own.join (es := bkPs b1 (.slice none 0 0) pm bm []) h3

/-- What a posting moves, slot by slot. -/
noncomputable def movesF (l : List Pst) (p : Pst) : Lit → Option Value := updF (updF (updF (updF (fun _ => none) (slotLit p.d 0) (.int .i64 (bal l p.d 0 + p.a))) (slotLit p.c 0) (.int .i64 (bal l p.c 0 - p.a))) (slotLit p.d p.o) (.int .i64 (bal l p.d p.o + p.a))) (slotLit p.c p.o) (.int .i64 (bal l p.c p.o - p.a))
def MovesPost (W : World) (fit : Bool) (mv : Lit → Option Value) (e : Ending) (w' : World) : Prop := if fit = true then ∃ om, e = .returned (.tuple #[.map (some om), .bool true]) ∧ Own W w' [mapE Try.prog 55 om 4 mv] else e = .returned (.tuple #[.map none, .bool false]) ∧ Below W.heap.size W w'
theorem addI_yes {a b : Int} (h : inI (a + b) = true) : addI a b = (a + b, true) := by unfold addI; rw [if_pos h]
theorem addI_no {a b : Int} (h : ¬ inI (a + b) = true) : addI a b = (0, false) := by unfold addI; rw [if_neg h]
theorem subI_yes {a b : Int} (h : inI (a - b) = true) : subI a b = (a - b, true) := by unfold subI; rw [if_pos h]
theorem subI_no {a b : Int} (h : ¬ inI (a - b) = true) : subI a b = (0, false) := by unfold subI; rw [if_neg h]

set_option maxHeartbeats 16000000 in
set_option maxRecDepth 100000 in
theorem bkMoves_any {W : World} {b : Nat} {v : Value} {pm bm : Nat} {l : List Pst} (h : BkAt W b v pm bm l) (p : Pst) (hp : WfP p) (hl : ∀ n o, inI (bal l n o) = true) : Calls Try.prog 23 #[.pointer (some ⟨b, 0, none⟩), pstV p] W fun e w' =>
    MovesPost W (fitsPst l p) (movesF l p) e w' := by
  obtain ⟨id, o, d, c, a⟩ := p
  obtain ⟨ho, hd, hc, ha, _⟩ := hp
  simp only at ho hd hc ha
  have HO := Own.start W
  obtain ⟨k, g, hF, -, hg⟩ := h.bals
  have hk1 := slotOf_lit hd (o := 0) rfl
  have hk2 := slotOf_lit hc (o := 0) rfl
  have hk3 := slotOf_lit hd ho
  have hk4 := slotOf_lit hc ho
  have hg1 := hg d 0 hd rfl
  have hg2 := hg c 0 hc rfl
  have hg3 := hg d o hd ho
  have hg4 := hg c o hc ho
  have h2 := old_cell h.box 2 rfl
  have hlt := old_lt h.box
  have MA1 := fun w => mAdd_any (hl d 0) ha w
  have MS2 := fun w => mSub_any (hl c 0) ha w
  have MA3 := fun w => mAdd_any (hl d o) ha w
  have MS4 := fun w => mSub_any (hl c o) ha w
  have HQ := Lib.hid (show fitsPst l ⟨id, o, d, c, a⟩ = (inI (bal l d 0 + a) && inI (bal l c 0 - a) && (inI (bal l d o + a) && inI (bal l c o - a))) from rfl)
  have HM := Lib.hid (show movesF l ⟨id, o, d, c, a⟩ = updF (updF (updF (updF (fun _ => none) (slotLit d 0) (.int .i64 (bal l d 0 + a))) (slotLit c 0) (.int .i64 (bal l c 0 - a))) (slotLit d o) (.int .i64 (bal l d o + a))) (slotLit c o) (.int .i64 (bal l c o - a)) from rfl)
  generalize fitsPst l ⟨id, o, d, c, a⟩ = fit at *
  generalize movesF l ⟨id, o, d, c, a⟩ = mv at *
  generalize slotLit d 0 = k1 at *
  generalize slotLit c 0 = k2 at *
  generalize slotLit d o = k3 at *
  generalize slotLit c o = k4 at *
  generalize bal l d 0 = z1 at *
  generalize bal l c 0 = z2 at *
  generalize bal l d o = z3 at *
  generalize bal l c o = z4 at *
  clear hl hg h
  simp only [pstV, pstC]
  go_enter Try.func23, Try.ntmps23
  go_wp2_with (first | (first | ((with_reducible apply wpList_boxAgg _ HO rfl); exact rfl; exact rfl; exact rfl; clear HO; intro b3 w HO; (simp only [Act.put, List.setIfInBounds_toArray, List.set_cons_succ, List.set_cons_zero])) | ((with_reducible apply wpList_allocAgg _ HO rfl); exact rfl; infer_instance; exact rfl; clear HO; intro b3 w HO; (simp only [Act.put, List.setIfInBounds_toArray, List.set_cons_succ, List.set_cons_zero]))) | ((with_reducible apply wpList_makeMap HO (kt := 55) (mt := 44)); exact rfl; exact rfl; clear HO; intro om w HO; (simp only [Act.put, List.setIfInBounds_toArray, List.set_cons_succ, List.set_cons_zero])) | (first | go_big_skip | ((with_reducible apply wpList_loadAll HO); exact rfl; exact rfl; (repeat (with_reducible (first | exact At.head _ | apply At.tail))); infer_instance; exact rfl; exact rfl; (simp only [Act.put, List.setIfInBounds_toArray, List.set_cons_succ, List.set_cons_zero])) | ((with_reducible apply wpList_loadOne HO); exact rfl; exact rfl; (repeat (with_reducible (first | exact At.head _ | apply At.tail))); exact rfl; infer_instance; exact rfl; (simp only [Act.put, List.setIfInBounds_toArray, List.set_cons_succ, List.set_cons_zero]))))
  refine wp_loop_rounds 3 ?_
  rw [rounds_succ]
  go_upto_region 5 with (first | ((with_reducible apply wpList_indexOne (i := 0)); exact rfl; exact rfl; exact rfl; exact Try.underlying62; exact (by decide); infer_instance; exact rfl; exact rfl; (simp only [Act.put, List.setIfInBounds_toArray, List.set_cons_succ, List.set_cons_zero])) | (first | go_big_skip | ((with_reducible apply wpList_loadAll HO); exact rfl; exact rfl; (repeat (with_reducible (first | exact At.head _ | apply At.tail))); infer_instance; exact rfl; exact rfl; (simp only [Act.put, List.setIfInBounds_toArray, List.set_cons_succ, List.set_cons_zero])) | ((with_reducible apply wpList_loadOne HO); exact rfl; exact rfl; (repeat (with_reducible (first | exact At.head _ | apply At.tail))); exact rfl; infer_instance; exact rfl; (simp only [Act.put, List.setIfInBounds_toArray, List.set_cons_succ, List.set_cons_zero]))))
  go_cut [9, 10] (fun x y wx => ∃ b90 b100 : Nat, x = .pointer (some ⟨b90, 0, none⟩) ∧ y = .pointer (some ⟨b100, 0, none⟩) ∧ Own W wx [box b90 (.cells #[.int .i64 d, .int .i64 0] 55), box b100 (.cells #[.int .i64 c, .int .i64 0] 55), mapE Try.prog 55 om 0 (fun _ => none), box b3 (.cells #[.string id, .int .i64 o, .int .i64 d, .int .i64 c, .int .i64 a] 30)])
  case first =>
    refine region_tree ([box b3 (.cells #[.string id, .int .i64 o, .int .i64 d, .int .i64 c, .int .i64 a] 30)]) [(0, true), (1, true), (2, true), (3, true), (4, true), (5, true), (6, true), (7, true), (8, false), (9, false), (10, false), (11, false)] (.fork [(0, true), (1, true), (2, true), (3, true), (4, true), (5, true), (6, true), (7, true)] 8 9 (.fin [(9, false), (10, false), (11, false)]) (.fin [(8, false), (10, false), (11, false)])) HO (by with_reducible (repeat (first | exact List.nil_sublist _ | apply List.Sublist.cons_cons | apply List.Sublist.cons))) (by kernel_rfl) (by kernel_rfl) ?_
    clear HO
    intro w HO
    refine wpS_fork ?_
    repeat (first | ((with_reducible apply wpSched_loadOne); exact rfl; exact rfl; exact rfl; (repeat (with_reducible (first | exact At.head _ | apply At.tail))); exact rfl; infer_instance; exact rfl; (simp only [Act.put, List.setIfInBounds_toArray, List.set_cons_succ, List.set_cons_zero])) | ((with_reducible apply wpSched_pure); exact rfl; exact rfl; (intro w'; go_simp; try with_reducible rfl); (simp only [Act.put, List.setIfInBounds_toArray, List.set_cons_succ, List.set_cons_zero])))
    refine fork_end rfl rfl ?_ ?_
    · (first | ((with_reducible apply wpList_boxAgg _ HO rfl); exact rfl; exact rfl; exact rfl; clear HO; intro b90 w HO; (simp only [Act.put, List.setIfInBounds_toArray, List.set_cons_succ, List.set_cons_zero])) | ((with_reducible apply wpList_allocAgg _ HO rfl); exact rfl; infer_instance; exact rfl; clear HO; intro b90 w HO; (simp only [Act.put, List.setIfInBounds_toArray, List.set_cons_succ, List.set_cons_zero])))
      refine wpList_nil (thenQ_keep (HO.held (by with_reducible (repeat (first | exact List.nil_sublist _ | apply List.Sublist.cons_cons | apply List.Sublist.cons)))) ?_)
      refine wpS_fin ?_
      ((with_reducible apply wpSched_loud); exact rfl; (first | ((with_reducible apply wpList_boxAgg _ HO rfl); exact rfl; exact rfl; exact rfl; clear HO; intro b100 w HO; (simp only [Act.put, List.setIfInBounds_toArray, List.set_cons_succ, List.set_cons_zero])) | ((with_reducible apply wpList_allocAgg _ HO rfl); exact rfl; infer_instance; exact rfl; clear HO; intro b100 w HO; (simp only [Act.put, List.setIfInBounds_toArray, List.set_cons_succ, List.set_cons_zero]))))
      refine wpList_nil (thenQ_keep (HO.held (by with_reducible (repeat (first | exact List.nil_sublist _ | apply List.Sublist.cons_cons | apply List.Sublist.cons)))) ?_)
      ((with_reducible apply wpSched_loud); exact rfl; ((with_reducible apply wpList_storeAll HO); exact rfl; exact rfl; exact rfl; (repeat (with_reducible (first | exact At.head _ | apply At.tail))); infer_instance; exact rfl; exact rfl; exact rfl; exact rfl; clear HO; intro w HO; (simp only [Act.put])))
      refine wpList_nil (thenQ_keep (HO.held (by with_reducible (repeat (first | exact List.nil_sublist _ | apply List.Sublist.cons_cons | apply List.Sublist.cons)))) ?_)
      ((with_reducible apply wpSched_loud); exact rfl; ((with_reducible apply wpList_storeAll HO); exact rfl; exact rfl; exact rfl; (repeat (with_reducible (first | exact At.head _ | apply At.tail))); infer_instance; exact rfl; exact rfl; exact rfl; exact rfl; clear HO; intro w HO; (simp only [Act.put])))
      refine wpList_nil (thenQ_keep (HO.held (by with_reducible (repeat (first | exact List.nil_sublist _ | apply List.Sublist.cons_cons | apply List.Sublist.cons)))) ?_)
      refine wpSched_end ?_
      go_wp2_with fail
      go_meet
      exact ⟨b90, b100, rfl, rfl, HO.swap⟩
    · (first | ((with_reducible apply wpList_boxAgg _ HO rfl); exact rfl; exact rfl; exact rfl; clear HO; intro b100 w HO; (simp only [Act.put, List.setIfInBounds_toArray, List.set_cons_succ, List.set_cons_zero])) | ((with_reducible apply wpList_allocAgg _ HO rfl); exact rfl; infer_instance; exact rfl; clear HO; intro b100 w HO; (simp only [Act.put, List.setIfInBounds_toArray, List.set_cons_succ, List.set_cons_zero])))
      refine wpList_nil (thenQ_keep (HO.held (by with_reducible (repeat (first | exact List.nil_sublist _ | apply List.Sublist.cons_cons | apply List.Sublist.cons)))) ?_)
      refine wpS_fin ?_
      ((with_reducible apply wpSched_loud); exact rfl; (first | ((with_reducible apply wpList_boxAgg _ HO rfl); exact rfl; exact rfl; exact rfl; clear HO; intro b90 w HO; (simp only [Act.put, List.setIfInBounds_toArray, List.set_cons_succ, List.set_cons_zero])) | ((with_reducible apply wpList_allocAgg _ HO rfl); exact rfl; infer_instance; exact rfl; clear HO; intro b90 w HO; (simp only [Act.put, List.setIfInBounds_toArray, List.set_cons_succ, List.set_cons_zero]))))
      refine wpList_nil (thenQ_keep (HO.held (by with_reducible (repeat (first | exact List.nil_sublist _ | apply List.Sublist.cons_cons | apply List.Sublist.cons)))) ?_)
      ((with_reducible apply wpSched_loud); exact rfl; ((with_reducible apply wpList_storeAll HO); exact rfl; exact rfl; exact rfl; (repeat (with_reducible (first | exact At.head _ | apply At.tail))); infer_instance; exact rfl; exact rfl; exact rfl; exact rfl; clear HO; intro w HO; (simp only [Act.put])))
      refine wpList_nil (thenQ_keep (HO.held (by with_reducible (repeat (first | exact List.nil_sublist _ | apply List.Sublist.cons_cons | apply List.Sublist.cons)))) ?_)
      ((with_reducible apply wpSched_loud); exact rfl; ((with_reducible apply wpList_storeAll HO); exact rfl; exact rfl; exact rfl; (repeat (with_reducible (first | exact At.head _ | apply At.tail))); infer_instance; exact rfl; exact rfl; exact rfl; exact rfl; clear HO; intro w HO; (simp only [Act.put])))
      refine wpList_nil (thenQ_keep (HO.held (by with_reducible (repeat (first | exact List.nil_sublist _ | apply List.Sublist.cons_cons | apply List.Sublist.cons)))) ?_)
      refine wpSched_end ?_
      go_wp2_with fail
      go_meet
      exact ⟨b90, b100, rfl, rfl, HO⟩
  clear HO
  obtain ⟨b90, b100, rfl, rfl, HO⟩ := hcut
  go_upto_region 6 with fail
  refine region_own HO (by kernel_rfl) (by kernel_rfl) ?_
  clear HO
  intro F HF
  repeat (first | (first | (first | go_big_quiet_skip | ((with_reducible apply wpQuiet_loadAll HF); exact rfl; exact rfl; (repeat (with_reducible (first | exact At.head _ | apply At.tail))); infer_instance; exact rfl; exact rfl; (simp only [Act.put, List.setIfInBounds_toArray, List.set_cons_succ, List.set_cons_zero])) | ((with_reducible apply wpQuiet_loadOne HF); exact rfl; exact rfl; (repeat (with_reducible (first | exact At.head _ | apply At.tail))); exact rfl; infer_instance; exact rfl; (simp only [Act.put, List.setIfInBounds_toArray, List.set_cons_succ, List.set_cons_zero])) | ((with_reducible apply wpQuiet_loadPart HF); exact rfl; exact rfl; (repeat (with_reducible (first | exact At.head _ | apply At.tail))); infer_instance; exact (Nat.le_of_ble_eq_true rfl); (simp only [List.drop_succ_cons, List.drop_zero, List.take_succ_cons, List.take_zero]; rfl); exact rfl; (simp only [Act.put, List.setIfInBounds_toArray, List.set_cons_succ, List.set_cons_zero]))) | ((with_reducible apply wpQuiet_loadOld1 HF); exact rfl; exact rfl; exact hlt; exact h2; infer_instance; exact rfl; (simp only [Act.put, List.setIfInBounds_toArray, List.set_cons_succ, List.set_cons_zero])) | ((with_reducible apply wpQuiet_mapLook0Old HF (kt := 55) (et := 2)); exact rfl; exact rfl; exact rfl; exact hF; exact slotKeyed; exact Try.underlying44; infer_instance; exact hk1; exact hg1; exact rfl; (simp only [Act.put, List.setIfInBounds_toArray, List.set_cons_succ, List.set_cons_zero]))) | go_big_quiet_step ((go_at_call 31; (with_reducible exact calls_fam HF (MA1 _)))))
  refine wpQuiet_nil ?_
  intro x
  have HO := HF.own x
  clear HF
  generalize F x = w at *
  clear x F
  go_upto_region 7 with fail
  refine region_own HO (by kernel_rfl) (by kernel_rfl) ?_
  clear HO
  intro F HF
  repeat (first | (first | (first | go_big_quiet_skip | ((with_reducible apply wpQuiet_loadAll HF); exact rfl; exact rfl; (repeat (with_reducible (first | exact At.head _ | apply At.tail))); infer_instance; exact rfl; exact rfl; (simp only [Act.put, List.setIfInBounds_toArray, List.set_cons_succ, List.set_cons_zero])) | ((with_reducible apply wpQuiet_loadOne HF); exact rfl; exact rfl; (repeat (with_reducible (first | exact At.head _ | apply At.tail))); exact rfl; infer_instance; exact rfl; (simp only [Act.put, List.setIfInBounds_toArray, List.set_cons_succ, List.set_cons_zero])) | ((with_reducible apply wpQuiet_loadPart HF); exact rfl; exact rfl; (repeat (with_reducible (first | exact At.head _ | apply At.tail))); infer_instance; exact (Nat.le_of_ble_eq_true rfl); (simp only [List.drop_succ_cons, List.drop_zero, List.take_succ_cons, List.take_zero]; rfl); exact rfl; (simp only [Act.put, List.setIfInBounds_toArray, List.set_cons_succ, List.set_cons_zero]))) | ((with_reducible apply wpQuiet_loadOld1 HF); exact rfl; exact rfl; exact hlt; exact h2; infer_instance; exact rfl; (simp only [Act.put, List.setIfInBounds_toArray, List.set_cons_succ, List.set_cons_zero])) | ((with_reducible apply wpQuiet_mapLook0Old HF (kt := 55) (et := 2)); exact rfl; exact rfl; exact rfl; exact hF; exact slotKeyed; exact Try.underlying44; infer_instance; exact hk2; exact hg2; exact rfl; (simp only [Act.put, List.setIfInBounds_toArray, List.set_cons_succ, List.set_cons_zero]))) | go_big_quiet_step ((go_at_call 32; (with_reducible exact calls_fam HF (MS2 _)))))
  refine wpQuiet_nil ?_
  intro x
  have HO := HF.own x
  clear HF
  generalize F x = w at *
  clear x F
  by_cases F1 : inI (z1 + a) = true
  rotate_left
  · rw [addI_no F1]
    replace F1 : inI (z1 + a) = false := by simpa using F1
    have F2 : True := trivial
    go_wp2_with fail
    refine bodyPost_ret (v := .tuple #[.map none, .bool false]) ?_ rfl ?_
    · simp only [results, Try.results23]
      go_simp
    · unfold MovesPost
      rw [HQ.out]
      simp only [F1, Bool.false_and, Bool.and_false, Bool.true_and, Bool.false_eq_true, if_false]
      exact ⟨trivial, HO.grown⟩
  rw [addI_yes F1]
  by_cases F2 : inI (z2 - a) = true
  rotate_left
  · rw [subI_no F2]
    replace F2 : inI (z2 - a) = false := by simpa using F2
    go_wp2_with fail
    refine bodyPost_ret (v := .tuple #[.map none, .bool false]) ?_ rfl ?_
    · simp only [results, Try.results23]
      go_simp
    · unfold MovesPost
      rw [HQ.out]
      simp only [F1, F2, Bool.false_and, Bool.and_false, Bool.true_and, Bool.false_eq_true, if_false]
      exact ⟨trivial, HO.grown⟩
  rw [subI_yes F2]
  go_upto_region 10 with fail
  refine region_sched2 ([box b90 (.cells #[.int .i64 d, .int .i64 0] 55), box b100 (.cells #[.int .i64 c, .int .i64 0] 55)]) [(0, true), (1, true), (2, true), (3, true), (4, true), (5, true), (6, false), (7, false)] HO (by with_reducible (repeat (first | exact List.nil_sublist _ | apply List.Sublist.cons_cons | apply List.Sublist.cons))) (by kernel_rfl) (by kernel_rfl) ?_
  clear HO
  intro w HO
  repeat (first | ((with_reducible apply wpSched_loadAll); exact rfl; exact rfl; exact rfl; (repeat (with_reducible (first | exact At.head _ | apply At.tail))); infer_instance; exact rfl; exact rfl; (simp only [Act.put, List.setIfInBounds_toArray, List.set_cons_succ, List.set_cons_zero])) | ((with_reducible apply wpSched_pure); exact rfl; exact rfl; (intro w'; go_simp; try with_reducible rfl); (simp only [Act.put, List.setIfInBounds_toArray, List.set_cons_succ, List.set_cons_zero])))
  ((with_reducible apply wpSched_loud); exact rfl; ((with_reducible apply wpList_mapPut HO (kt := 55) (et := 2)); exact rfl; exact rfl; exact rfl; (first | (simp [Act.eval]; rfl) | exact rfl); (repeat (with_reducible (first | exact At.head _ | apply At.tail))); exact slotKeyed; exact Try.underlying44; exact (by decide); exact hk1; exact rfl; clear HO; intro w HO; (simp only [Act.put])))
  refine wpList_nil (thenQ_keep (HO.held (by with_reducible (repeat (first | exact List.nil_sublist _ | apply List.Sublist.cons_cons | apply List.Sublist.cons)))) ?_)
  ((with_reducible apply wpSched_loud); exact rfl; ((with_reducible apply wpList_mapPut HO (kt := 55) (et := 2)); exact rfl; exact rfl; exact rfl; (first | (simp [Act.eval]; rfl) | exact rfl); (repeat (with_reducible (first | exact At.head _ | apply At.tail))); exact slotKeyed; exact Try.underlying44; exact (by decide); exact hk2; exact rfl; clear HO; intro w HO; (simp only [Act.put])))
  refine wpList_nil (thenQ_keep (HO.held (by with_reducible (repeat (first | exact List.nil_sublist _ | apply List.Sublist.cons_cons | apply List.Sublist.cons)))) ?_)
  refine wpSched_end ?_
  go_wp2_with fail
  rw [rounds_succ]
  go_upto_region 5 with (first | ((with_reducible apply wpList_indexOne (i := 1)); exact rfl; exact rfl; exact rfl; exact Try.underlying62; exact (by decide); infer_instance; exact rfl; exact rfl; (simp only [Act.put, List.setIfInBounds_toArray, List.set_cons_succ, List.set_cons_zero])) | (first | go_big_skip | ((with_reducible apply wpList_loadAll HO); exact rfl; exact rfl; (repeat (with_reducible (first | exact At.head _ | apply At.tail))); infer_instance; exact rfl; exact rfl; (simp only [Act.put, List.setIfInBounds_toArray, List.set_cons_succ, List.set_cons_zero])) | ((with_reducible apply wpList_loadOne HO); exact rfl; exact rfl; (repeat (with_reducible (first | exact At.head _ | apply At.tail))); exact rfl; infer_instance; exact rfl; (simp only [Act.put, List.setIfInBounds_toArray, List.set_cons_succ, List.set_cons_zero]))))
  go_cut [9, 10] (fun x y wx => ∃ b91 b101 : Nat, x = .pointer (some ⟨b91, 0, none⟩) ∧ y = .pointer (some ⟨b101, 0, none⟩) ∧ Own W wx [box b91 (.cells #[.int .i64 d, .int .i64 o] 55), box b101 (.cells #[.int .i64 c, .int .i64 o] 55), box b90 (.cells #[.int .i64 d, .int .i64 0] 55), box b100 (.cells #[.int .i64 c, .int .i64 0] 55), mapE Try.prog 55 om 2 (updF (updF (fun _ => none) k1 (.int .i64 (z1 + a))) k2 (.int .i64 (z2 - a))), box b3 (.cells #[.string id, .int .i64 o, .int .i64 d, .int .i64 c, .int .i64 a] 30)])
  case first =>
    refine region_tree ([box b3 (.cells #[.string id, .int .i64 o, .int .i64 d, .int .i64 c, .int .i64 a] 30)]) [(0, true), (1, true), (2, true), (3, true), (4, true), (5, true), (6, true), (7, true), (8, false), (9, false), (10, false), (11, false)] (.fork [(0, true), (1, true), (2, true), (3, true), (4, true), (5, true), (6, true), (7, true)] 8 9 (.fin [(9, false), (10, false), (11, false)]) (.fin [(8, false), (10, false), (11, false)])) HO (by with_reducible (repeat (first | exact List.nil_sublist _ | apply List.Sublist.cons_cons | apply List.Sublist.cons))) (by kernel_rfl) (by kernel_rfl) ?_
    clear HO
    intro w HO
    refine wpS_fork ?_
    repeat (first | ((with_reducible apply wpSched_loadOne); exact rfl; exact rfl; exact rfl; (repeat (with_reducible (first | exact At.head _ | apply At.tail))); exact rfl; infer_instance; exact rfl; (simp only [Act.put, List.setIfInBounds_toArray, List.set_cons_succ, List.set_cons_zero])) | ((with_reducible apply wpSched_pure); exact rfl; exact rfl; (intro w'; go_simp; try with_reducible rfl); (simp only [Act.put, List.setIfInBounds_toArray, List.set_cons_succ, List.set_cons_zero])))
    refine fork_end rfl rfl ?_ ?_
    · (first | ((with_reducible apply wpList_boxAgg _ HO rfl); exact rfl; exact rfl; exact rfl; clear HO; intro b91 w HO; (simp only [Act.put, List.setIfInBounds_toArray, List.set_cons_succ, List.set_cons_zero])) | ((with_reducible apply wpList_allocAgg _ HO rfl); exact rfl; infer_instance; exact rfl; clear HO; intro b91 w HO; (simp only [Act.put, List.setIfInBounds_toArray, List.set_cons_succ, List.set_cons_zero])))
      refine wpList_nil (thenQ_keep (HO.held (by with_reducible (repeat (first | exact List.nil_sublist _ | apply List.Sublist.cons_cons | apply List.Sublist.cons)))) ?_)
      refine wpS_fin ?_
      ((with_reducible apply wpSched_loud); exact rfl; (first | ((with_reducible apply wpList_boxAgg _ HO rfl); exact rfl; exact rfl; exact rfl; clear HO; intro b101 w HO; (simp only [Act.put, List.setIfInBounds_toArray, List.set_cons_succ, List.set_cons_zero])) | ((with_reducible apply wpList_allocAgg _ HO rfl); exact rfl; infer_instance; exact rfl; clear HO; intro b101 w HO; (simp only [Act.put, List.setIfInBounds_toArray, List.set_cons_succ, List.set_cons_zero]))))
      refine wpList_nil (thenQ_keep (HO.held (by with_reducible (repeat (first | exact List.nil_sublist _ | apply List.Sublist.cons_cons | apply List.Sublist.cons)))) ?_)
      ((with_reducible apply wpSched_loud); exact rfl; ((with_reducible apply wpList_storeAll HO); exact rfl; exact rfl; exact rfl; (repeat (with_reducible (first | exact At.head _ | apply At.tail))); infer_instance; exact rfl; exact rfl; exact rfl; exact rfl; clear HO; intro w HO; (simp only [Act.put])))
      refine wpList_nil (thenQ_keep (HO.held (by with_reducible (repeat (first | exact List.nil_sublist _ | apply List.Sublist.cons_cons | apply List.Sublist.cons)))) ?_)
      ((with_reducible apply wpSched_loud); exact rfl; ((with_reducible apply wpList_storeAll HO); exact rfl; exact rfl; exact rfl; (repeat (with_reducible (first | exact At.head _ | apply At.tail))); infer_instance; exact rfl; exact rfl; exact rfl; exact rfl; clear HO; intro w HO; (simp only [Act.put])))
      refine wpList_nil (thenQ_keep (HO.held (by with_reducible (repeat (first | exact List.nil_sublist _ | apply List.Sublist.cons_cons | apply List.Sublist.cons)))) ?_)
      refine wpSched_end ?_
      go_wp2_with fail
      go_meet
      exact ⟨b91, b101, rfl, rfl, HO.swap⟩
    · (first | ((with_reducible apply wpList_boxAgg _ HO rfl); exact rfl; exact rfl; exact rfl; clear HO; intro b101 w HO; (simp only [Act.put, List.setIfInBounds_toArray, List.set_cons_succ, List.set_cons_zero])) | ((with_reducible apply wpList_allocAgg _ HO rfl); exact rfl; infer_instance; exact rfl; clear HO; intro b101 w HO; (simp only [Act.put, List.setIfInBounds_toArray, List.set_cons_succ, List.set_cons_zero])))
      refine wpList_nil (thenQ_keep (HO.held (by with_reducible (repeat (first | exact List.nil_sublist _ | apply List.Sublist.cons_cons | apply List.Sublist.cons)))) ?_)
      refine wpS_fin ?_
      ((with_reducible apply wpSched_loud); exact rfl; (first | ((with_reducible apply wpList_boxAgg _ HO rfl); exact rfl; exact rfl; exact rfl; clear HO; intro b91 w HO; (simp only [Act.put, List.setIfInBounds_toArray, List.set_cons_succ, List.set_cons_zero])) | ((with_reducible apply wpList_allocAgg _ HO rfl); exact rfl; infer_instance; exact rfl; clear HO; intro b91 w HO; (simp only [Act.put, List.setIfInBounds_toArray, List.set_cons_succ, List.set_cons_zero]))))
      refine wpList_nil (thenQ_keep (HO.held (by with_reducible (repeat (first | exact List.nil_sublist _ | apply List.Sublist.cons_cons | apply List.Sublist.cons)))) ?_)
      ((with_reducible apply wpSched_loud); exact rfl; ((with_reducible apply wpList_storeAll HO); exact rfl; exact rfl; exact rfl; (repeat (with_reducible (first | exact At.head _ | apply At.tail))); infer_instance; exact rfl; exact rfl; exact rfl; exact rfl; clear HO; intro w HO; (simp only [Act.put])))
      refine wpList_nil (thenQ_keep (HO.held (by with_reducible (repeat (first | exact List.nil_sublist _ | apply List.Sublist.cons_cons | apply List.Sublist.cons)))) ?_)
      ((with_reducible apply wpSched_loud); exact rfl; ((with_reducible apply wpList_storeAll HO); exact rfl; exact rfl; exact rfl; (repeat (with_reducible (first | exact At.head _ | apply At.tail))); infer_instance; exact rfl; exact rfl; exact rfl; exact rfl; clear HO; intro w HO; (simp only [Act.put])))
      refine wpList_nil (thenQ_keep (HO.held (by with_reducible (repeat (first | exact List.nil_sublist _ | apply List.Sublist.cons_cons | apply List.Sublist.cons)))) ?_)
      refine wpSched_end ?_
      go_wp2_with fail
      go_meet
      exact ⟨b91, b101, rfl, rfl, HO⟩
  clear HO
  obtain ⟨b91, b101, rfl, rfl, HO⟩ := hcut
  go_upto_region 6 with fail
  refine region_own HO (by kernel_rfl) (by kernel_rfl) ?_
  clear HO
  intro F HF
  repeat (first | (first | (first | go_big_quiet_skip | ((with_reducible apply wpQuiet_loadAll HF); exact rfl; exact rfl; (repeat (with_reducible (first | exact At.head _ | apply At.tail))); infer_instance; exact rfl; exact rfl; (simp only [Act.put, List.setIfInBounds_toArray, List.set_cons_succ, List.set_cons_zero])) | ((with_reducible apply wpQuiet_loadOne HF); exact rfl; exact rfl; (repeat (with_reducible (first | exact At.head _ | apply At.tail))); exact rfl; infer_instance; exact rfl; (simp only [Act.put, List.setIfInBounds_toArray, List.set_cons_succ, List.set_cons_zero])) | ((with_reducible apply wpQuiet_loadPart HF); exact rfl; exact rfl; (repeat (with_reducible (first | exact At.head _ | apply At.tail))); infer_instance; exact (Nat.le_of_ble_eq_true rfl); (simp only [List.drop_succ_cons, List.drop_zero, List.take_succ_cons, List.take_zero]; rfl); exact rfl; (simp only [Act.put, List.setIfInBounds_toArray, List.set_cons_succ, List.set_cons_zero]))) | ((with_reducible apply wpQuiet_loadOld1 HF); exact rfl; exact rfl; exact hlt; exact h2; infer_instance; exact rfl; (simp only [Act.put, List.setIfInBounds_toArray, List.set_cons_succ, List.set_cons_zero])) | ((with_reducible apply wpQuiet_mapLook0Old HF (kt := 55) (et := 2)); exact rfl; exact rfl; exact rfl; exact hF; exact slotKeyed; exact Try.underlying44; infer_instance; exact hk3; exact hg3; exact rfl; (simp only [Act.put, List.setIfInBounds_toArray, List.set_cons_succ, List.set_cons_zero]))) | go_big_quiet_step ((go_at_call 31; (with_reducible exact calls_fam HF (MA3 _)))))
  refine wpQuiet_nil ?_
  intro x
  have HO := HF.own x
  clear HF
  generalize F x = w at *
  clear x F
  go_upto_region 7 with fail
  refine region_own HO (by kernel_rfl) (by kernel_rfl) ?_
  clear HO
  intro F HF
  repeat (first | (first | (first | go_big_quiet_skip | ((with_reducible apply wpQuiet_loadAll HF); exact rfl; exact rfl; (repeat (with_reducible (first | exact At.head _ | apply At.tail))); infer_instance; exact rfl; exact rfl; (simp only [Act.put, List.setIfInBounds_toArray, List.set_cons_succ, List.set_cons_zero])) | ((with_reducible apply wpQuiet_loadOne HF); exact rfl; exact rfl; (repeat (with_reducible (first | exact At.head _ | apply At.tail))); exact rfl; infer_instance; exact rfl; (simp only [Act.put, List.setIfInBounds_toArray, List.set_cons_succ, List.set_cons_zero])) | ((with_reducible apply wpQuiet_loadPart HF); exact rfl; exact rfl; (repeat (with_reducible (first | exact At.head _ | apply At.tail))); infer_instance; exact (Nat.le_of_ble_eq_true rfl); (simp only [List.drop_succ_cons, List.drop_zero, List.take_succ_cons, List.take_zero]; rfl); exact rfl; (simp only [Act.put, List.setIfInBounds_toArray, List.set_cons_succ, List.set_cons_zero]))) | ((with_reducible apply wpQuiet_loadOld1 HF); exact rfl; exact rfl; exact hlt; exact h2; infer_instance; exact rfl; (simp only [Act.put, List.setIfInBounds_toArray, List.set_cons_succ, List.set_cons_zero])) | ((with_reducible apply wpQuiet_mapLook0Old HF (kt := 55) (et := 2)); exact rfl; exact rfl; exact rfl; exact hF; exact slotKeyed; exact Try.underlying44; infer_instance; exact hk4; exact hg4; exact rfl; (simp only [Act.put, List.setIfInBounds_toArray, List.set_cons_succ, List.set_cons_zero]))) | go_big_quiet_step ((go_at_call 32; (with_reducible exact calls_fam HF (MS4 _)))))
  refine wpQuiet_nil ?_
  intro x
  have HO := HF.own x
  clear HF
  generalize F x = w at *
  clear x F
  by_cases F3 : inI (z3 + a) = true
  rotate_left
  · rw [addI_no F3]
    replace F3 : inI (z3 + a) = false := by simpa using F3
    have F4 : True := trivial
    go_wp2_with fail
    refine bodyPost_ret (v := .tuple #[.map none, .bool false]) ?_ rfl ?_
    · simp only [results, Try.results23]
      go_simp
    · unfold MovesPost
      rw [HQ.out]
      simp only [F3, Bool.false_and, Bool.and_false, Bool.true_and, Bool.false_eq_true, if_false]
      exact ⟨trivial, HO.grown⟩
  rw [addI_yes F3]
  by_cases F4 : inI (z4 - a) = true
  rotate_left
  · rw [subI_no F4]
    replace F4 : inI (z4 - a) = false := by simpa using F4
    go_wp2_with fail
    refine bodyPost_ret (v := .tuple #[.map none, .bool false]) ?_ rfl ?_
    · simp only [results, Try.results23]
      go_simp
    · unfold MovesPost
      rw [HQ.out]
      simp only [F3, F4, Bool.false_and, Bool.and_false, Bool.true_and, Bool.false_eq_true, if_false]
      exact ⟨trivial, HO.grown⟩
  rw [subI_yes F4]
  go_upto_region 10 with fail
  refine region_sched2 ([box b91 (.cells #[.int .i64 d, .int .i64 o] 55), box b101 (.cells #[.int .i64 c, .int .i64 o] 55)]) [(0, true), (1, true), (2, true), (3, true), (4, true), (5, true), (6, false), (7, false)] HO (by with_reducible (repeat (first | exact List.nil_sublist _ | apply List.Sublist.cons_cons | apply List.Sublist.cons))) (by kernel_rfl) (by kernel_rfl) ?_
  clear HO
  intro w HO
  repeat (first | ((with_reducible apply wpSched_loadAll); exact rfl; exact rfl; exact rfl; (repeat (with_reducible (first | exact At.head _ | apply At.tail))); infer_instance; exact rfl; exact rfl; (simp only [Act.put, List.setIfInBounds_toArray, List.set_cons_succ, List.set_cons_zero])) | ((with_reducible apply wpSched_pure); exact rfl; exact rfl; (intro w'; go_simp; try with_reducible rfl); (simp only [Act.put, List.setIfInBounds_toArray, List.set_cons_succ, List.set_cons_zero])))
  ((with_reducible apply wpSched_loud); exact rfl; ((with_reducible apply wpList_mapPut HO (kt := 55) (et := 2)); exact rfl; exact rfl; exact rfl; (first | (simp [Act.eval]; rfl) | exact rfl); (repeat (with_reducible (first | exact At.head _ | apply At.tail))); exact slotKeyed; exact Try.underlying44; exact (by decide); exact hk3; exact rfl; clear HO; intro w HO; (simp only [Act.put])))
  refine wpList_nil (thenQ_keep (HO.held (by with_reducible (repeat (first | exact List.nil_sublist _ | apply List.Sublist.cons_cons | apply List.Sublist.cons)))) ?_)
  ((with_reducible apply wpSched_loud); exact rfl; ((with_reducible apply wpList_mapPut HO (kt := 55) (et := 2)); exact rfl; exact rfl; exact rfl; (first | (simp [Act.eval]; rfl) | exact rfl); (repeat (with_reducible (first | exact At.head _ | apply At.tail))); exact slotKeyed; exact Try.underlying44; exact (by decide); exact hk4; exact rfl; clear HO; intro w HO; (simp only [Act.put])))
  refine wpList_nil (thenQ_keep (HO.held (by with_reducible (repeat (first | exact List.nil_sublist _ | apply List.Sublist.cons_cons | apply List.Sublist.cons)))) ?_)
  refine wpSched_end ?_
  go_wp2_with fail
  rw [rounds_succ]
  go_wp2_with fail
  refine bodyPost_ret (v := .tuple #[.map (some om), .bool true]) ?_ rfl ?_
  · simp only [results, Try.results23]
    go_simp
  unfold MovesPost
  rw [HQ.out, HM.out]
  simp only [F1, F2, F3, F4, Bool.and_self, if_true]
  exact ⟨om, rfl, HO.sub (by exact .cons _ (.cons _ (.cons _ (.cons _ (.cons_cons _ (.cons _ (.slnil)))))))⟩
end Go.Proofs.Ythiokpjakiidjaa

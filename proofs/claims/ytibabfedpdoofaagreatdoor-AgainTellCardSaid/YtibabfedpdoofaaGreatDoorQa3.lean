/-
  New books, and what a posting moves, by walking the program's text; conditions: int64 numbers. (Printed by wip/mkbk.py.)
  A posting posted, by walking the program's text; conditions: int64 numbers, less than 100000 postings.
  What bits.Var and its kin compute, by walking their text; conditions: numbers below 2^63.
  What bits.Read and its kin compute, by walking their text; conditions: none.
  What the document's functions on bits compute, by walking their text: the same; conditions: none.
  What the functions on names compute, by walking their text; conditions: none.
  What is wrong with an order, by walking both texts; conditions: texts no longer than memory bears.
  What the functions on keys compute, by walking their text; conditions: the table of parties holds what the text lays.
  What the functions on orders compute, by walking their text; conditions: texts no longer than memory bears.
  What the reader of orders does, by walking its text; conditions: it lies in memory, apart from what the calls make.
  The order of some bytes: the plain law of getting and putting, and what Get computes, by walking its text; conditions: texts no longer than memory bears.
  What the reader of rows does, by walking its text; conditions: its two cells lie in memory of the caller's own.
  All numbers that stand one behind the other, by walking the document's text; conditions: none.
  The table of parties, seen from within a drawn region; conditions: none.
  Whether there may be a row of a party, by walking the text; conditions: the table of parties as laid.
-/
import Derived.Deep.DeepCutAuto
import Derived.Deep.CutBlock
import Derived.Test.YtibabfedpdoofaaGreatDoorRows
import Derived.Deep.RegionWith
import Derived.Test.YtibabfedpdoofaaGreatDoorQa1
import Derived.Test.YtibabfedpdoofaaGreatDoorQa2
namespace Go.Proofs.YtibabfedpdoofaaGreatDoor
open Go.RowKit Go.Own Go.Maps

set_option maxHeartbeats 4000000 in
theorem bkNew_any (W : World) : Calls Tryz.prog 78 #[] W fun e w' => ∃ b pm bm, e = .returned (.pointer (some ⟨b, 0, none⟩)) ∧ Own W w' [bkE b (.slice none 0 0) pm bm []] := by
  have HO := Own.start W
  go_enter Tryz.func78, Tryz.ntmps78
  go_wp2_with (first | ((with_reducible apply wpList_makeMap HO (kt := 9) (mt := 190)); exact rfl; exact rfl; clear HO; intro pm w HO; (simp only [Act.put, zA, zB, zC])) | ((with_reducible apply wpList_makeMap HO (kt := 195) (mt := 191)); exact rfl; exact rfl; clear HO; intro bm w HO; (simp only [Act.put, zA, zB, zC])) | (first | ((with_reducible apply wpList_boxAgg _ HO rfl); exact rfl; exact rfl; exact rfl; clear HO; intro b1 w HO; (simp only [Act.put, zA, zB, zC])) | ((with_reducible apply wpList_allocAgg _ HO rfl); exact rfl; infer_instance; exact rfl; clear HO; intro b1 w HO; (simp only [Act.put, zA, zB, zC]))) | go_big_skip)
  go_ret
  refine ⟨b1, pm, bm, rfl, ?_⟩
  have h1 := (HO.nil 187 5).swap
  have h2 := Own.idClose (h1.perm ((List.Perm.swap _ _ _).cons _ |>.cons _)) (l := []) (.tail _ _ _ (.tail _ _ _ (.head _))) (Nat.zero_le _) (fun s _ => rfl)
  have h3 := Own.balClose h2 (l := []) (.tail _ _ _ (.tail _ _ _ (.tail _ _ _ (.head _)))) (Nat.zero_le _) (fun n o _ _ => rfl)
  exact Own.join (es := bkPs b1 (.slice none 0 0) pm bm []) h3

/-- What a posting moves, slot by slot. -/
noncomputable def movesF (l : List Pst) (p : Pst) : Lit → Option Value := updF (updF (updF (updF (fun _ => none) (slotLit p.d 0) (.int .i64 (bal l p.d 0 + p.a))) (slotLit p.c 0) (.int .i64 (bal l p.c 0 - p.a))) (slotLit p.d p.o) (.int .i64 (bal l p.d p.o + p.a))) (slotLit p.c p.o) (.int .i64 (bal l p.c p.o - p.a))
def MovesPost (W : World) (fit : Bool) (mv : Lit → Option Value) (e : Ending) (w' : World) : Prop := if fit = true then ∃ om, e = .returned (.tuple #[.map (some om), .bool true]) ∧ Own W w' [mapE Tryz.prog 195 om 4 mv] else e = .returned (.tuple #[.map none, .bool false]) ∧ Below W.heap.size W w'
theorem addI_yes {a b : Int} (h : inI (a + b) = true) : addI a b = (a + b, true) := by unfold addI; rw [if_pos h]
theorem addI_no {a b : Int} (h : ¬ inI (a + b) = true) : addI a b = (0, false) := by unfold addI; rw [if_neg h]
theorem subI_yes {a b : Int} (h : inI (a - b) = true) : subI a b = (a - b, true) := by unfold subI; rw [if_pos h]
theorem subI_no {a b : Int} (h : ¬ inI (a - b) = true) : subI a b = (0, false) := by unfold subI; rw [if_neg h]

set_option maxHeartbeats 16000000 in
set_option maxRecDepth 100000 in
theorem bkMoves_any {W : World} {b : Nat} {v : Value} {pm bm : Nat} {l : List Pst} (h : BkAt W b v pm bm l) (p : Pst) (hp : WfP p) (hl : ∀ n o, inI (bal l n o) = true) : Calls Tryz.prog 143 #[.pointer (some ⟨b, 0, none⟩), pstV p] W fun e w' =>
    MovesPost W (fitsPst l p) (movesF l p) e w' := by
  obtain ⟨id, o, d, c, a⟩ := p
  obtain ⟨ho, hd, hc, ha, _⟩ := hp
  simp only at ho hd hc ha
  have HO := Own.start W
  obtain ⟨k, g, hF, -, hg⟩ := h.bals
  have hk1 := slotOf_lit hd (o := 0) rfl
  have hk2 := slotOf_lit hc (o := 0) rfl
  have hk3 := slotOf_lit hd ho
  have hk4 := slotOf_lit hc ho
  have hg1 := hg d 0 hd rfl
  have hg2 := hg c 0 hc rfl
  have hg3 := hg d o hd ho
  have hg4 := hg c o hc ho
  have h2 := old_cell h.box 2 rfl
  have hlt := old_lt h.box
  have MA1 := fun w => mAdd_any (hl d 0) ha w
  have MS2 := fun w => mSub_any (hl c 0) ha w
  have MA3 := fun w => mAdd_any (hl d o) ha w
  have MS4 := fun w => mSub_any (hl c o) ha w
  have HQ := Lib.hid (show fitsPst l ⟨id, o, d, c, a⟩ = (inI (bal l d 0 + a) && inI (bal l c 0 - a) && (inI (bal l d o + a) && inI (bal l c o - a))) from rfl)
  have HM := Lib.hid (show movesF l ⟨id, o, d, c, a⟩ = updF (updF (updF (updF (fun _ => none) (slotLit d 0) (.int .i64 (bal l d 0 + a))) (slotLit c 0) (.int .i64 (bal l c 0 - a))) (slotLit d o) (.int .i64 (bal l d o + a))) (slotLit c o) (.int .i64 (bal l c o - a)) from rfl)
  generalize fitsPst l ⟨id, o, d, c, a⟩ = fit at *
  generalize movesF l ⟨id, o, d, c, a⟩ = mv at *
  generalize slotLit d 0 = k1 at *
  generalize slotLit c 0 = k2 at *
  generalize slotLit d o = k3 at *
  generalize slotLit c o = k4 at *
  generalize bal l d 0 = z1 at *
  generalize bal l c 0 = z2 at *
  generalize bal l d o = z3 at *
  generalize bal l c o = z4 at *
  clear hl hg h
  simp only [pstV, pstC]
  go_enter Tryz.func143, Tryz.ntmps143
  go_wp2_with (first | (first | ((with_reducible apply wpList_boxAgg _ HO rfl); exact rfl; exact rfl; exact rfl; clear HO; intro b3 w HO; (simp only [Act.put, zA, zB, zC])) | ((with_reducible apply wpList_allocAgg _ HO rfl); exact rfl; infer_instance; exact rfl; clear HO; intro b3 w HO; (simp only [Act.put, zA, zB, zC]))) | ((with_reducible apply wpList_makeMap HO (kt := 195) (mt := 191)); exact rfl; exact rfl; clear HO; intro om w HO; (simp only [Act.put, zA, zB, zC])) | (first | go_big_skip | ((with_reducible apply wpList_loadAll HO); exact rfl; exact rfl; (repeat (with_reducible (first | exact At.head _ | apply At.tail))); infer_instance; exact rfl; exact rfl; (simp only [Act.put, zA, zB, zC])) | ((with_reducible apply wpList_loadOne HO); exact rfl; exact rfl; (repeat (with_reducible (first | exact At.head _ | apply At.tail))); exact rfl; infer_instance; exact rfl; (simp only [Act.put, zA, zB, zC]))))
  refine wp_loop_rounds 3 ?_
  rw [rounds_succ]
  go_upto_region 5 with (first | ((with_reducible apply wpList_indexOne (i := 0)); exact rfl; exact rfl; exact rfl; exact Tryz.underlying236; exact (by decide); infer_instance; exact rfl; exact rfl; (simp only [Act.put, zA, zB, zC])) | (first | go_big_skip | ((with_reducible apply wpList_loadAll HO); exact rfl; exact rfl; (repeat (with_reducible (first | exact At.head _ | apply At.tail))); infer_instance; exact rfl; exact rfl; (simp only [Act.put, zA, zB, zC])) | ((with_reducible apply wpList_loadOne HO); exact rfl; exact rfl; (repeat (with_reducible (first | exact At.head _ | apply At.tail))); exact rfl; infer_instance; exact rfl; (simp only [Act.put, zA, zB, zC]))))
  go_cut [9, 10] (fun x y wx => ∃ b90 b100 : Nat, x = .pointer (some ⟨b90, 0, none⟩) ∧ y = .pointer (some ⟨b100, 0, none⟩) ∧ Own W wx [box b90 (.cells #[.int .i64 d, .int .i64 0] 195), box b100 (.cells #[.int .i64 c, .int .i64 0] 195), mapE Tryz.prog 195 om 0 (fun _ => none), box b3 (.cells #[.string id, .int .i64 o, .int .i64 d, .int .i64 c, .int .i64 a] 187)])
  case first =>
    refine region_tree ([box b3 (.cells #[.string id, .int .i64 o, .int .i64 d, .int .i64 c, .int .i64 a] 187)]) [(0, true), (1, true), (2, true), (3, true), (4, true), (5, true), (6, true), (7, true), (8, false), (9, false), (10, false), (11, false)] (.fork [(0, true), (1, true), (2, true), (3, true), (4, true), (5, true), (6, true), (7, true)] 8 9 (.fin [(9, false), (10, false), (11, false)]) (.fin [(8, false), (10, false), (11, false)])) HO (by with_reducible (repeat (first | exact List.nil_sublist _ | apply List.Sublist.cons_cons | apply List.Sublist.cons))) (by kernel_rfl) (by kernel_rfl) ?_
    clear HO
    intro w HO
    refine wpS_fork ?_
    repeat (first | ((with_reducible apply wpSched_loadOne); exact rfl; exact rfl; exact rfl; (repeat (with_reducible (first | exact At.head _ | apply At.tail))); exact rfl; infer_instance; exact rfl; (simp only [Act.put, zA, zB, zC])) | ((with_reducible apply wpSched_pure); exact rfl; exact rfl; (intro w'; go_simp; try with_reducible rfl); (simp only [Act.put, zA, zB, zC])))
    refine fork_end rfl rfl ?_ ?_
    · (first | ((with_reducible apply wpList_boxAgg _ HO rfl); exact rfl; exact rfl; exact rfl; clear HO; intro b90 w HO; (simp only [Act.put, zA, zB, zC])) | ((with_reducible apply wpList_allocAgg _ HO rfl); exact rfl; infer_instance; exact rfl; clear HO; intro b90 w HO; (simp only [Act.put, zA, zB, zC])))
      refine wpList_nil (thenQ_keep (HO.held (by with_reducible (repeat (first | exact List.nil_sublist _ | apply List.Sublist.cons_cons | apply List.Sublist.cons)))) ?_)
      refine wpS_fin ?_
      ((with_reducible apply wpSched_loud); exact rfl; (first | ((with_reducible apply wpList_boxAgg _ HO rfl); exact rfl; exact rfl; exact rfl; clear HO; intro b100 w HO; (simp only [Act.put, zA, zB, zC])) | ((with_reducible apply wpList_allocAgg _ HO rfl); exact rfl; infer_instance; exact rfl; clear HO; intro b100 w HO; (simp only [Act.put, zA, zB, zC]))))
      refine wpList_nil (thenQ_keep (HO.held (by with_reducible (repeat (first | exact List.nil_sublist _ | apply List.Sublist.cons_cons | apply List.Sublist.cons)))) ?_)
      ((with_reducible apply wpSched_loud); exact rfl; ((with_reducible apply wpList_storeAll HO); exact rfl; exact rfl; exact rfl; (repeat (with_reducible (first | exact At.head _ | apply At.tail))); infer_instance; exact rfl; exact rfl; exact rfl; exact rfl; clear HO; intro w HO; (simp only [Act.put])))
      refine wpList_nil (thenQ_keep (HO.held (by with_reducible (repeat (first | exact List.nil_sublist _ | apply List.Sublist.cons_cons | apply List.Sublist.cons)))) ?_)
      ((with_reducible apply wpSched_loud); exact rfl; ((with_reducible apply wpList_storeAll HO); exact rfl; exact rfl; exact rfl; (repeat (with_reducible (first | exact At.head _ | apply At.tail))); infer_instance; exact rfl; exact rfl; exact rfl; exact rfl; clear HO; intro w HO; (simp only [Act.put])))
      refine wpList_nil (thenQ_keep (HO.held (by with_reducible (repeat (first | exact List.nil_sublist _ | apply List.Sublist.cons_cons | apply List.Sublist.cons)))) ?_)
      refine wpSched_end ?_
      go_wp2_with fail
      go_meet
      exact ⟨b90, b100, rfl, rfl, HO.swap⟩
    · (first | ((with_reducible apply wpList_boxAgg _ HO rfl); exact rfl; exact rfl; exact rfl; clear HO; intro b100 w HO; (simp only [Act.put, zA, zB, zC])) | ((with_reducible apply wpList_allocAgg _ HO rfl); exact rfl; infer_instance; exact rfl; clear HO; intro b100 w HO; (simp only [Act.put, zA, zB, zC])))
      refine wpList_nil (thenQ_keep (HO.held (by with_reducible (repeat (first | exact List.nil_sublist _ | apply List.Sublist.cons_cons | apply List.Sublist.cons)))) ?_)
      refine wpS_fin ?_
      ((with_reducible apply wpSched_loud); exact rfl; (first | ((with_reducible apply wpList_boxAgg _ HO rfl); exact rfl; exact rfl; exact rfl; clear HO; intro b90 w HO; (simp only [Act.put, zA, zB, zC])) | ((with_reducible apply wpList_allocAgg _ HO rfl); exact rfl; infer_instance; exact rfl; clear HO; intro b90 w HO; (simp only [Act.put, zA, zB, zC]))))
      refine wpList_nil (thenQ_keep (HO.held (by with_reducible (repeat (first | exact List.nil_sublist _ | apply List.Sublist.cons_cons | apply List.Sublist.cons)))) ?_)
      ((with_reducible apply wpSched_loud); exact rfl; ((with_reducible apply wpList_storeAll HO); exact rfl; exact rfl; exact rfl; (repeat (with_reducible (first | exact At.head _ | apply At.tail))); infer_instance; exact rfl; exact rfl; exact rfl; exact rfl; clear HO; intro w HO; (simp only [Act.put])))
      refine wpList_nil (thenQ_keep (HO.held (by with_reducible (repeat (first | exact List.nil_sublist _ | apply List.Sublist.cons_cons | apply List.Sublist.cons)))) ?_)
      ((with_reducible apply wpSched_loud); exact rfl; ((with_reducible apply wpList_storeAll HO); exact rfl; exact rfl; exact rfl; (repeat (with_reducible (first | exact At.head _ | apply At.tail))); infer_instance; exact rfl; exact rfl; exact rfl; exact rfl; clear HO; intro w HO; (simp only [Act.put])))
      refine wpList_nil (thenQ_keep (HO.held (by with_reducible (repeat (first | exact List.nil_sublist _ | apply List.Sublist.cons_cons | apply List.Sublist.cons)))) ?_)
      refine wpSched_end ?_
      go_wp2_with fail
      go_meet
      exact ⟨b90, b100, rfl, rfl, HO⟩
  clear HO
  obtain ⟨b90, b100, rfl, rfl, HO⟩ := hcut
  go_upto_region 6 with fail
  refine region_own HO (by kernel_rfl) (by kernel_rfl) ?_
  clear HO
  intro F HF
  repeat (first | (first | (first | go_big_quiet_skip | ((with_reducible apply wpQuiet_loadAll HF); exact rfl; exact rfl; (repeat (with_reducible (first | exact At.head _ | apply At.tail))); infer_instance; exact rfl; exact rfl; (simp only [Act.put, zA, zB, zC])) | ((with_reducible apply wpQuiet_loadOne HF); exact rfl; exact rfl; (repeat (with_reducible (first | exact At.head _ | apply At.tail))); exact rfl; infer_instance; exact rfl; (simp only [Act.put, zA, zB, zC])) | ((with_reducible apply wpQuiet_loadPart HF); exact rfl; exact rfl; (repeat (with_reducible (first | exact At.head _ | apply At.tail))); infer_instance; exact (Nat.le_of_ble_eq_true rfl); (simp only [List.drop_succ_cons, List.drop_zero, List.take_succ_cons, List.take_zero]; rfl); exact rfl; (simp only [Act.put, zA, zB, zC]))) | ((with_reducible apply wpQuiet_loadOld1 HF); exact rfl; exact rfl; exact hlt; exact h2; infer_instance; exact rfl; (simp only [Act.put, zA, zB, zC])) | ((with_reducible apply wpQuiet_mapLook0Old HF (kt := 195) (et := 2)); exact rfl; exact rfl; exact rfl; exact hF; exact slotKeyed; exact Tryz.underlying191; infer_instance; exact hk1; exact hg1; exact rfl; (simp only [Act.put, zA, zB, zC]))) | go_big_quiet_step ((go_at_call 51; (with_reducible exact calls_fam HF (MA1 _)))))
  refine wpQuiet_nil ?_
  intro x
  have HO := HF.own x
  clear HF
  generalize F x = w at *
  clear x F
  go_upto_region 7 with fail
  refine region_own HO (by kernel_rfl) (by kernel_rfl) ?_
  clear HO
  intro F HF
  repeat (first | (first | (first | go_big_quiet_skip | ((with_reducible apply wpQuiet_loadAll HF); exact rfl; exact rfl; (repeat (with_reducible (first | exact At.head _ | apply At.tail))); infer_instance; exact rfl; exact rfl; (simp only [Act.put, zA, zB, zC])) | ((with_reducible apply wpQuiet_loadOne HF); exact rfl; exact rfl; (repeat (with_reducible (first | exact At.head _ | apply At.tail))); exact rfl; infer_instance; exact rfl; (simp only [Act.put, zA, zB, zC])) | ((with_reducible apply wpQuiet_loadPart HF); exact rfl; exact rfl; (repeat (with_reducible (first | exact At.head _ | apply At.tail))); infer_instance; exact (Nat.le_of_ble_eq_true rfl); (simp only [List.drop_succ_cons, List.drop_zero, List.take_succ_cons, List.take_zero]; rfl); exact rfl; (simp only [Act.put, zA, zB, zC]))) | ((with_reducible apply wpQuiet_loadOld1 HF); exact rfl; exact rfl; exact hlt; exact h2; infer_instance; exact rfl; (simp only [Act.put, zA, zB, zC])) | ((with_reducible apply wpQuiet_mapLook0Old HF (kt := 195) (et := 2)); exact rfl; exact rfl; exact rfl; exact hF; exact slotKeyed; exact Tryz.underlying191; infer_instance; exact hk2; exact hg2; exact rfl; (simp only [Act.put, zA, zB, zC]))) | go_big_quiet_step ((go_at_call 49; (with_reducible exact calls_fam HF (MS2 _)))))
  refine wpQuiet_nil ?_
  intro x
  have HO := HF.own x
  clear HF
  generalize F x = w at *
  clear x F
  by_cases F1 : inI (z1 + a) = true
  rotate_left
  · rw [addI_no F1]
    replace F1 : inI (z1 + a) = false := by simpa using F1
    have F2 : True := trivial
    go_wp2_with fail
    refine bodyPost_ret (v := .tuple #[.map none, .bool false]) ?_ rfl ?_
    · simp only [results, Tryz.results143]
      go_simp
    · unfold MovesPost
      rw [HQ.out]
      simp only [F1, Bool.false_and, Bool.false_eq_true, if_false]
      exact ⟨trivial, HO.grown⟩
  rw [addI_yes F1]
  by_cases F2 : inI (z2 - a) = true
  rotate_left
  · rw [subI_no F2]
    replace F2 : inI (z2 - a) = false := by simpa using F2
    go_wp2_with fail
    refine bodyPost_ret (v := .tuple #[.map none, .bool false]) ?_ rfl ?_
    · simp only [results, Tryz.results143]
      go_simp
    · unfold MovesPost
      rw [HQ.out]
      simp only [F1, F2, Bool.false_and, Bool.and_false, Bool.false_eq_true, if_false]
      exact ⟨trivial, HO.grown⟩
  rw [subI_yes F2]
  go_upto_region 10 with fail
  refine region_sched2 ([box b90 (.cells #[.int .i64 d, .int .i64 0] 195), box b100 (.cells #[.int .i64 c, .int .i64 0] 195)]) [(0, true), (1, true), (2, true), (3, true), (4, true), (5, true), (6, false), (7, false)] HO (by with_reducible (repeat (first | exact List.nil_sublist _ | apply List.Sublist.cons_cons | apply List.Sublist.cons))) (by kernel_rfl) (by kernel_rfl) ?_
  clear HO
  intro w HO
  repeat (first | ((with_reducible apply wpSched_loadAll); exact rfl; exact rfl; exact rfl; (repeat (with_reducible (first | exact At.head _ | apply At.tail))); infer_instance; exact rfl; exact rfl; (simp only [Act.put, zA, zB, zC])) | ((with_reducible apply wpSched_pure); exact rfl; exact rfl; (intro w'; go_simp; try with_reducible rfl); (simp only [Act.put, zA, zB, zC])))
  ((with_reducible apply wpSched_loud); exact rfl; ((with_reducible apply wpList_mapPut HO (kt := 195) (et := 2)); exact rfl; exact rfl; exact rfl; (first | (simp [Act.eval]; rfl) | exact rfl); (repeat (with_reducible (first | exact At.head _ | apply At.tail))); exact slotKeyed; exact Tryz.underlying191; exact (by decide); exact hk1; exact rfl; clear HO; intro w HO; (simp only [Act.put])))
  refine wpList_nil (thenQ_keep (HO.held (by with_reducible (repeat (first | exact List.nil_sublist _ | apply List.Sublist.cons_cons | apply List.Sublist.cons)))) ?_)
  ((with_reducible apply wpSched_loud); exact rfl; ((with_reducible apply wpList_mapPut HO (kt := 195) (et := 2)); exact rfl; exact rfl; exact rfl; (first | (simp [Act.eval]; rfl) | exact rfl); (repeat (with_reducible (first | exact At.head _ | apply At.tail))); exact slotKeyed; exact Tryz.underlying191; exact (by decide); exact hk2; exact rfl; clear HO; intro w HO; (simp only [Act.put])))
  refine wpList_nil (thenQ_keep (HO.held (by with_reducible (repeat (first | exact List.nil_sublist _ | apply List.Sublist.cons_cons | apply List.Sublist.cons)))) ?_)
  refine wpSched_end ?_
  go_wp2_with fail
  rw [rounds_succ]
  go_upto_region 5 with (first | ((with_reducible apply wpList_indexOne (i := 1)); exact rfl; exact rfl; exact rfl; exact Tryz.underlying236; exact (by decide); infer_instance; exact rfl; exact rfl; (simp only [Act.put, zA, zB, zC])) | (first | go_big_skip | ((with_reducible apply wpList_loadAll HO); exact rfl; exact rfl; (repeat (with_reducible (first | exact At.head _ | apply At.tail))); infer_instance; exact rfl; exact rfl; (simp only [Act.put, zA, zB, zC])) | ((with_reducible apply wpList_loadOne HO); exact rfl; exact rfl; (repeat (with_reducible (first | exact At.head _ | apply At.tail))); exact rfl; infer_instance; exact rfl; (simp only [Act.put, zA, zB, zC]))))
  go_cut [9, 10] (fun x y wx => ∃ b91 b101 : Nat, x = .pointer (some ⟨b91, 0, none⟩) ∧ y = .pointer (some ⟨b101, 0, none⟩) ∧ Own W wx [box b91 (.cells #[.int .i64 d, .int .i64 o] 195), box b101 (.cells #[.int .i64 c, .int .i64 o] 195), box b90 (.cells #[.int .i64 d, .int .i64 0] 195), box b100 (.cells #[.int .i64 c, .int .i64 0] 195), mapE Tryz.prog 195 om 2 (updF (updF (fun _ => none) k1 (.int .i64 (z1 + a))) k2 (.int .i64 (z2 - a))), box b3 (.cells #[.string id, .int .i64 o, .int .i64 d, .int .i64 c, .int .i64 a] 187)])
  case first =>
    refine region_tree ([box b3 (.cells #[.string id, .int .i64 o, .int .i64 d, .int .i64 c, .int .i64 a] 187)]) [(0, true), (1, true), (2, true), (3, true), (4, true), (5, true), (6, true), (7, true), (8, false), (9, false), (10, false), (11, false)] (.fork [(0, true), (1, true), (2, true), (3, true), (4, true), (5, true), (6, true), (7, true)] 8 9 (.fin [(9, false), (10, false), (11, false)]) (.fin [(8, false), (10, false), (11, false)])) HO (by with_reducible (repeat (first | exact List.nil_sublist _ | apply List.Sublist.cons_cons | apply List.Sublist.cons))) (by kernel_rfl) (by kernel_rfl) ?_
    clear HO
    intro w HO
    refine wpS_fork ?_
    repeat (first | ((with_reducible apply wpSched_loadOne); exact rfl; exact rfl; exact rfl; (repeat (with_reducible (first | exact At.head _ | apply At.tail))); exact rfl; infer_instance; exact rfl; (simp only [Act.put, zA, zB, zC])) | ((with_reducible apply wpSched_pure); exact rfl; exact rfl; (intro w'; go_simp; try with_reducible rfl); (simp only [Act.put, zA, zB, zC])))
    refine fork_end rfl rfl ?_ ?_
    · (first | ((with_reducible apply wpList_boxAgg _ HO rfl); exact rfl; exact rfl; exact rfl; clear HO; intro b91 w HO; (simp only [Act.put, zA, zB, zC])) | ((with_reducible apply wpList_allocAgg _ HO rfl); exact rfl; infer_instance; exact rfl; clear HO; intro b91 w HO; (simp only [Act.put, zA, zB, zC])))
      refine wpList_nil (thenQ_keep (HO.held (by with_reducible (repeat (first | exact List.nil_sublist _ | apply List.Sublist.cons_cons | apply List.Sublist.cons)))) ?_)
      refine wpS_fin ?_
      ((with_reducible apply wpSched_loud); exact rfl; (first | ((with_reducible apply wpList_boxAgg _ HO rfl); exact rfl; exact rfl; exact rfl; clear HO; intro b101 w HO; (simp only [Act.put, zA, zB, zC])) | ((with_reducible apply wpList_allocAgg _ HO rfl); exact rfl; infer_instance; exact rfl; clear HO; intro b101 w HO; (simp only [Act.put, zA, zB, zC]))))
      refine wpList_nil (thenQ_keep (HO.held (by with_reducible (repeat (first | exact List.nil_sublist _ | apply List.Sublist.cons_cons | apply List.Sublist.cons)))) ?_)
      ((with_reducible apply wpSched_loud); exact rfl; ((with_reducible apply wpList_storeAll HO); exact rfl; exact rfl; exact rfl; (repeat (with_reducible (first | exact At.head _ | apply At.tail))); infer_instance; exact rfl; exact rfl; exact rfl; exact rfl; clear HO; intro w HO; (simp only [Act.put])))
      refine wpList_nil (thenQ_keep (HO.held (by with_reducible (repeat (first | exact List.nil_sublist _ | apply List.Sublist.cons_cons | apply List.Sublist.cons)))) ?_)
      ((with_reducible apply wpSched_loud); exact rfl; ((with_reducible apply wpList_storeAll HO); exact rfl; exact rfl; exact rfl; (repeat (with_reducible (first | exact At.head _ | apply At.tail))); infer_instance; exact rfl; exact rfl; exact rfl; exact rfl; clear HO; intro w HO; (simp only [Act.put])))
      refine wpList_nil (thenQ_keep (HO.held (by with_reducible (repeat (first | exact List.nil_sublist _ | apply List.Sublist.cons_cons | apply List.Sublist.cons)))) ?_)
      refine wpSched_end ?_
      go_wp2_with fail
      go_meet
      exact ⟨b91, b101, rfl, rfl, HO.swap⟩
    · (first | ((with_reducible apply wpList_boxAgg _ HO rfl); exact rfl; exact rfl; exact rfl; clear HO; intro b101 w HO; (simp only [Act.put, zA, zB, zC])) | ((with_reducible apply wpList_allocAgg _ HO rfl); exact rfl; infer_instance; exact rfl; clear HO; intro b101 w HO; (simp only [Act.put, zA, zB, zC])))
      refine wpList_nil (thenQ_keep (HO.held (by with_reducible (repeat (first | exact List.nil_sublist _ | apply List.Sublist.cons_cons | apply List.Sublist.cons)))) ?_)
      refine wpS_fin ?_
      ((with_reducible apply wpSched_loud); exact rfl; (first | ((with_reducible apply wpList_boxAgg _ HO rfl); exact rfl; exact rfl; exact rfl; clear HO; intro b91 w HO; (simp only [Act.put, zA, zB, zC])) | ((with_reducible apply wpList_allocAgg _ HO rfl); exact rfl; infer_instance; exact rfl; clear HO; intro b91 w HO; (simp only [Act.put, zA, zB, zC]))))
      refine wpList_nil (thenQ_keep (HO.held (by with_reducible (repeat (first | exact List.nil_sublist _ | apply List.Sublist.cons_cons | apply List.Sublist.cons)))) ?_)
      ((with_reducible apply wpSched_loud); exact rfl; ((with_reducible apply wpList_storeAll HO); exact rfl; exact rfl; exact rfl; (repeat (with_reducible (first | exact At.head _ | apply At.tail))); infer_instance; exact rfl; exact rfl; exact rfl; exact rfl; clear HO; intro w HO; (simp only [Act.put])))
      refine wpList_nil (thenQ_keep (HO.held (by with_reducible (repeat (first | exact List.nil_sublist _ | apply List.Sublist.cons_cons | apply List.Sublist.cons)))) ?_)
      ((with_reducible apply wpSched_loud); exact rfl; ((with_reducible apply wpList_storeAll HO); exact rfl; exact rfl; exact rfl; (repeat (with_reducible (first | exact At.head _ | apply At.tail))); infer_instance; exact rfl; exact rfl; exact rfl; exact rfl; clear HO; intro w HO; (simp only [Act.put])))
      refine wpList_nil (thenQ_keep (HO.held (by with_reducible (repeat (first | exact List.nil_sublist _ | apply List.Sublist.cons_cons | apply List.Sublist.cons)))) ?_)
      refine wpSched_end ?_
      go_wp2_with fail
      go_meet
      exact ⟨b91, b101, rfl, rfl, HO⟩
  clear HO
  obtain ⟨b91, b101, rfl, rfl, HO⟩ := hcut
  go_upto_region 6 with fail
  refine region_own HO (by kernel_rfl) (by kernel_rfl) ?_
  clear HO
  intro F HF
  repeat (first | (first | (first | go_big_quiet_skip | ((with_reducible apply wpQuiet_loadAll HF); exact rfl; exact rfl; (repeat (with_reducible (first | exact At.head _ | apply At.tail))); infer_instance; exact rfl; exact rfl; (simp only [Act.put, zA, zB, zC])) | ((with_reducible apply wpQuiet_loadOne HF); exact rfl; exact rfl; (repeat (with_reducible (first | exact At.head _ | apply At.tail))); exact rfl; infer_instance; exact rfl; (simp only [Act.put, zA, zB, zC])) | ((with_reducible apply wpQuiet_loadPart HF); exact rfl; exact rfl; (repeat (with_reducible (first | exact At.head _ | apply At.tail))); infer_instance; exact (Nat.le_of_ble_eq_true rfl); (simp only [List.drop_succ_cons, List.drop_zero, List.take_succ_cons, List.take_zero]; rfl); exact rfl; (simp only [Act.put, zA, zB, zC]))) | ((with_reducible apply wpQuiet_loadOld1 HF); exact rfl; exact rfl; exact hlt; exact h2; infer_instance; exact rfl; (simp only [Act.put, zA, zB, zC])) | ((with_reducible apply wpQuiet_mapLook0Old HF (kt := 195) (et := 2)); exact rfl; exact rfl; exact rfl; exact hF; exact slotKeyed; exact Tryz.underlying191; infer_instance; exact hk3; exact hg3; exact rfl; (simp only [Act.put, zA, zB, zC]))) | go_big_quiet_step ((go_at_call 51; (with_reducible exact calls_fam HF (MA3 _)))))
  refine wpQuiet_nil ?_
  intro x
  have HO := HF.own x
  clear HF
  generalize F x = w at *
  clear x F
  go_upto_region 7 with fail
  refine region_own HO (by kernel_rfl) (by kernel_rfl) ?_
  clear HO
  intro F HF
  repeat (first | (first | (first | go_big_quiet_skip | ((with_reducible apply wpQuiet_loadAll HF); exact rfl; exact rfl; (repeat (with_reducible (first | exact At.head _ | apply At.tail))); infer_instance; exact rfl; exact rfl; (simp only [Act.put, zA, zB, zC])) | ((with_reducible apply wpQuiet_loadOne HF); exact rfl; exact rfl; (repeat (with_reducible (first | exact At.head _ | apply At.tail))); exact rfl; infer_instance; exact rfl; (simp only [Act.put, zA, zB, zC])) | ((with_reducible apply wpQuiet_loadPart HF); exact rfl; exact rfl; (repeat (with_reducible (first | exact At.head _ | apply At.tail))); infer_instance; exact (Nat.le_of_ble_eq_true rfl); (simp only [List.drop_succ_cons, List.drop_zero, List.take_succ_cons, List.take_zero]; rfl); exact rfl; (simp only [Act.put, zA, zB, zC]))) | ((with_reducible apply wpQuiet_loadOld1 HF); exact rfl; exact rfl; exact hlt; exact h2; infer_instance; exact rfl; (simp only [Act.put, zA, zB, zC])) | ((with_reducible apply wpQuiet_mapLook0Old HF (kt := 195) (et := 2)); exact rfl; exact rfl; exact rfl; exact hF; exact slotKeyed; exact Tryz.underlying191; infer_instance; exact hk4; exact hg4; exact rfl; (simp only [Act.put, zA, zB, zC]))) | go_big_quiet_step ((go_at_call 49; (with_reducible exact calls_fam HF (MS4 _)))))
  refine wpQuiet_nil ?_
  intro x
  have HO := HF.own x
  clear HF
  generalize F x = w at *
  clear x F
  by_cases F3 : inI (z3 + a) = true
  rotate_left
  · rw [addI_no F3]
    replace F3 : inI (z3 + a) = false := by simpa using F3
    have F4 : True := trivial
    go_wp2_with fail
    refine bodyPost_ret (v := .tuple #[.map none, .bool false]) ?_ rfl ?_
    · simp only [results, Tryz.results143]
      go_simp
    · unfold MovesPost
      rw [HQ.out]
      simp only [F3, Bool.false_and, Bool.and_false, Bool.false_eq_true, if_false]
      exact ⟨trivial, HO.grown⟩
  rw [addI_yes F3]
  by_cases F4 : inI (z4 - a) = true
  rotate_left
  · rw [subI_no F4]
    replace F4 : inI (z4 - a) = false := by simpa using F4
    go_wp2_with fail
    refine bodyPost_ret (v := .tuple #[.map none, .bool false]) ?_ rfl ?_
    · simp only [results, Tryz.results143]
      go_simp
    · unfold MovesPost
      rw [HQ.out]
      simp only [F3, F4, Bool.and_false, Bool.false_eq_true, if_false]
      exact ⟨trivial, HO.grown⟩
  rw [subI_yes F4]
  go_upto_region 10 with fail
  refine region_sched2 ([box b91 (.cells #[.int .i64 d, .int .i64 o] 195), box b101 (.cells #[.int .i64 c, .int .i64 o] 195)]) [(0, true), (1, true), (2, true), (3, true), (4, true), (5, true), (6, false), (7, false)] HO (by with_reducible (repeat (first | exact List.nil_sublist _ | apply List.Sublist.cons_cons | apply List.Sublist.cons))) (by kernel_rfl) (by kernel_rfl) ?_
  clear HO
  intro w HO
  repeat (first | ((with_reducible apply wpSched_loadAll); exact rfl; exact rfl; exact rfl; (repeat (with_reducible (first | exact At.head _ | apply At.tail))); infer_instance; exact rfl; exact rfl; (simp only [Act.put, zA, zB, zC])) | ((with_reducible apply wpSched_pure); exact rfl; exact rfl; (intro w'; go_simp; try with_reducible rfl); (simp only [Act.put, zA, zB, zC])))
  ((with_reducible apply wpSched_loud); exact rfl; ((with_reducible apply wpList_mapPut HO (kt := 195) (et := 2)); exact rfl; exact rfl; exact rfl; (first | (simp [Act.eval]; rfl) | exact rfl); (repeat (with_reducible (first | exact At.head _ | apply At.tail))); exact slotKeyed; exact Tryz.underlying191; exact (by decide); exact hk3; exact rfl; clear HO; intro w HO; (simp only [Act.put])))
  refine wpList_nil (thenQ_keep (HO.held (by with_reducible (repeat (first | exact List.nil_sublist _ | apply List.Sublist.cons_cons | apply List.Sublist.cons)))) ?_)
  ((with_reducible apply wpSched_loud); exact rfl; ((with_reducible apply wpList_mapPut HO (kt := 195) (et := 2)); exact rfl; exact rfl; exact rfl; (first | (simp [Act.eval]; rfl) | exact rfl); (repeat (with_reducible (first | exact At.head _ | apply At.tail))); exact slotKeyed; exact Tryz.underlying191; exact (by decide); exact hk4; exact rfl; clear HO; intro w HO; (simp only [Act.put])))
  refine wpList_nil (thenQ_keep (HO.held (by with_reducible (repeat (first | exact List.nil_sublist _ | apply List.Sublist.cons_cons | apply List.Sublist.cons)))) ?_)
  refine wpSched_end ?_
  go_wp2_with fail
  rw [rounds_succ]
  go_wp2_with fail
  refine bodyPost_ret (v := .tuple #[.map (some om), .bool true]) ?_ rfl ?_
  · simp only [results, Tryz.results143]
    go_simp
  unfold MovesPost
  rw [HQ.out, HM.out]
  simp only [F1, F2, F3, F4, Bool.and_self, if_true]
  exact ⟨om, rfl, HO.sub (by exact .cons _ (.cons _ (.cons _ (.cons _ (.cons_cons _ (.cons _ (.slnil)))))))⟩
end Go.Proofs.YtibabfedpdoofaaGreatDoor
namespace Go.Proofs.YtibabfedpdoofaaGreatDoor
open Go.RowKit Go.Own Go.Maps

theorem findP_snoc (l : List Pst) (p : Pst) (s : ByteArray) : findP (l ++ [p]) s = (findP l s).or (if p.id = s then some p else none) := by
  unfold findP
  rw [List.find?_append]
  congr 1
  simp only [List.find?_cons, List.find?_nil]
  by_cases h : p.id = s <;> simp [h]
theorem idOk_snoc {l : List Pst} {f : Lit → Option Value} {p : Pst} (h : idOk l f) (hn : findP l p.id = none) : idOk (l ++ [p]) (updF f (.string p.id.data.toList) (pstV p)) := by
  intro s hs
  rw [findP_snoc]
  unfold updF
  by_cases e : p.id = s
  · subst e
    rw [if_pos (WideAt.sameKey_self (show WideAt.IsKeyLit (.string _) from trivial)), hn, if_pos rfl]
    rfl
  · have hk : Lit.sameKey (.string s.data.toList) (.string p.id.data.toList) = false := by
      cases hc : Lit.sameKey (.string s.data.toList) (.string p.id.data.toList) with
      | false => rfl
      | true =>
        have h1 := WideAt.sameKey_eq hc
        simp only [Lit.string.injEq] at h1
        exact absurd (by
          obtain ⟨⟨a⟩⟩ := s
          cases p with
          | mk id o d c a2 =>
            obtain ⟨⟨b⟩⟩ := id
            simpa using h1.symm) e
    rw [hk, if_neg e, h s hs]
    simp
set_option maxRecDepth 100000 in
theorem updF_slot {f : Lit → Option Value} {v : Value} {n o n' o' : Int} (h1 : inI n = true) (h2 : inI o = true) (h1' : inI n' = true) (h2' : inI o' = true) : updF f (slotLit n' o') v (slotLit n o) = if n = n' ∧ o = o' then some v else f (slotLit n o) := by
  unfold updF
  by_cases e : n = n' ∧ o = o'
  · obtain ⟨rfl, rfl⟩ := e
    rw [if_pos (WideAt.sameKey_self (slotKeyed.key (slotOf_lit h1 h2))), if_pos ⟨rfl, rfl⟩]
  · have hk : (slotLit n o).sameKey (slotLit n' o') = false := by
      cases hc : (slotLit n o).sameKey (slotLit n' o') with
      | false => rfl
      | true => exact absurd (slotLit_inj h1 h2 h1' h2' (WideAt.sameKey_eq hc)) e
    rw [hk, if_neg e]
    simp
set_option maxRecDepth 100000 in
theorem BalOk_snoc {l : List Pst} {g : Lit → Option Value} {p : Pst} (h : BalOk l g) (hw : WfP p) (hm : mayPst p = true) : BalOk (l ++ [p]) (mergeF g (movesF l p)) := by
  intro n o hn ho
  have hm := mayPst_iff.1 hm
  have hg := h n o hn ho
  have z0 : inI 0 = true := rfl
  rw [bal_snoc]
  unfold mergeF movesF
  rw [updF_slot hn ho hw.c hw.o, updF_slot hn ho hw.d hw.o, updF_slot hn ho hw.c z0, updF_slot hn ho hw.d z0]
  unfold delta
  by_cases c1 : n = p.c ∧ o = p.o
  · obtain ⟨rfl, rfl⟩ := c1
    rw [if_pos ⟨rfl, rfl⟩]
    simp only [Option.getD_some, Value.int.injEq, true_and]
    rw [if_neg (by omega), if_neg (by omega), if_pos trivial]; omega
  rw [if_neg c1]
  by_cases c2 : n = p.d ∧ o = p.o
  · obtain ⟨rfl, rfl⟩ := c2
    rw [if_pos ⟨rfl, rfl⟩]
    simp only [Option.getD_some, Value.int.injEq, true_and]
    rw [if_neg (by omega), if_pos trivial]
  rw [if_neg c2]
  by_cases c3 : n = p.c ∧ o = 0
  · obtain ⟨rfl, rfl⟩ := c3
    rw [if_pos ⟨rfl, rfl⟩]
    simp only [Option.getD_some, Value.int.injEq, true_and]
    rw [if_neg (by omega), if_neg (by omega), if_pos trivial]; omega
  rw [if_neg c3]
  by_cases c4 : n = p.d ∧ o = 0
  · obtain ⟨rfl, rfl⟩ := c4
    rw [if_pos ⟨rfl, rfl⟩]
    simp only [Option.getD_some, Value.int.injEq, true_and]
    rw [if_neg (by omega), if_pos trivial]
  rw [if_neg c4]
  have e : (if o ≠ 0 ∧ p.o ≠ o then (0 : Int) else if p.d = n then p.a else if p.c = n then -p.a else 0) = 0 := by
    split
    · rfl
    · rename_i hc
      rw [if_neg (by omega), if_neg (by omega)]
  rw [e, Int.add_zero]
  exact hg
theorem movesF_int (l : List Pst) (p : Pst) : ∀ k v, movesF l p k = some v → ∃ x, v = .int .i64 x := by
  intro k v h
  unfold movesF updF at h
  repeat' split at h
  all_goals first | (cases h; exact ⟨_, rfl⟩) | cases h
theorem pstC_len (l : List Pst) : ∀ x ∈ l.map pstC, x.length = 5 := fun x hx => by
  obtain ⟨p, _, rfl⟩ := List.mem_map.1 hx
  rfl
theorem Own.bkOf {W w : World} {L : List Ent} {b : Nat} {v : Value} {pm bm n k : Nat} {l : List Pst} {f g : Lit → Option Value} (h : Own W w L) (h1 : box b (.cells [v, .map (some pm), .map (some bm)].toArray 193) ∈ L) (h2 : row 187 5 v (l.map pstC) ∈ L)
    (h3 : mapE Tryz.prog 9 pm n f ∈ L) (h4 : mapE Tryz.prog 195 bm k g ∈ L) (hn : n ≤ l.length) (hf : idOk l f) (hk : k ≤ 4 * l.length) (hg : BalOk l g) : BkAt w b v pm bm l :=
  ⟨h.has _ h1, h.has _ h2, ⟨n, f, h.has _ h3, hn, hf⟩, ⟨k, g, h.has _ h4, hk, hg⟩⟩
theorem run_pst_eql (p q : Pst) (w : World) : (binOp .eql 187 (.agg #[.string p.id, .int .i64 p.o, .int .i64 p.d, .int .i64 p.c, .int .i64 p.a]) (.agg #[.string q.id, .int .i64 q.o, .int .i64 q.d, .int .i64 q.c, .int .i64 q.a])).run Tryz.prog w = .ok (.bool (decide (p = q))) w := by
  obtain ⟨s, a, b, c, d⟩ := p
  obtain ⟨s', a', b', c', d'⟩ := q
  go_simp
  have hs : s.toList = s'.toList ↔ s = s' := by
    rw [ByteArray.toList_eq, ByteArray.toList_eq]
    obtain ⟨⟨x⟩⟩ := s
    obtain ⟨⟨y⟩⟩ := s'
    simp
  simp only [hs]
  (repeat' split) <;> simp_all

set_option maxHeartbeats 16000000 in
set_option maxRecDepth 100000 in
theorem bkPost_own {W w : World} {M : List Ent} {b : Nat} {v : Value} {pm bm : Nat} {l : List Pst} (p : Pst) (HO : Own W w (bkPs b v pm bm l ++ M)) (hB : Bk l) (hp : WfP p) (hlen : l.length ≤ 100000) :
    Calls Tryz.prog 111 #[.pointer (some ⟨b, 0, none⟩), pstV p] w fun e w' => e = .returned (.int .i64 (postE l p)) ∧ ∃ v', Own W w' (bkPs b v' pm bm (postL l p) ++ M) := by
  replace HO : Own W w (box b (.cells [v, .map (some pm), .map (some bm)].toArray 193) :: row 187 5 v (l.map pstC) :: idE pm l :: balE bm l :: M) := HO
  obtain ⟨n1, f, hn1, hf, HO1⟩ := Own.idOpen HO (fun n f => .tail _ _ _ (.tail _ _ _ (.head _)))
  obtain ⟨n2, g, hn2, hg, HO2⟩ := Own.balOpen HO1 (fun n f => .tail _ _ _ (.tail _ _ _ (.tail _ _ _ (.head _))))
  have HC := Lib.hid (fun (w : World) (h : Own W w (box b (.cells [v, .map (some pm), .map (some bm)].toArray 193) :: row 187 5 v (l.map pstC) :: mapE Tryz.prog 9 pm n1 f :: mapE Tryz.prog 195 bm n2 g :: M)) => (⟨v, Own.balClose (Own.idClose h (.tail _ _ _ (.tail _ _ _ (.head _))) hn1 hf) (.tail _ _ _ (.tail _ _ _ (.tail _ _ _ (.head _)))) hn2 hg⟩ : ∃ v', Own W w (bkPs b v' pm bm l ++ M)))
  clear HO HO1
  have HO := HO2
  clear HO2
  have MY := fun w => mayB_any p w
  have MV := fun w (h : BkAt w b v pm bm l) => bkMoves_any h p hp hB.bal_in
  have hq := hf p.id hp.s
  have hkey := WideMaps.keyOf_string_mk (P := Tryz.prog) Tryz.underlying9 hp.s
  have hlt5 : n2 + 4 < maxLen := by unfold maxLen; omega
  have hlt1 : n1 < maxLen := by unfold maxLen; omega
  have hlen1 : (l.map pstC).length + 1 ≤ 1000000 := by rw [List.length_map]; omega
  have hidn := Lib.hid (fun h => idOk_snoc (p := p) hf h)
  have hbaln := Lib.hid (fun h => BalOk_snoc hg hp h)
  have hEq := fun q w => run_pst_eql q p w
  cases hm : mayPst p
  · have e1 : postE l p = 2 := by simp [postE, hm]
    have e2 : postL l p = l := by simp [postL, hm]
    rw [e1, e2]
    rw [hm] at MY
    clear hidn hbaln hEq e1 e2 hm MV hB hp
    obtain ⟨id, o, d, c, a⟩ := p
    simp only [pstV, pstC] at *
    go_enter Tryz.func111, Tryz.ntmps111
    go_wp2_with (first | (first | go_big_skip | ((with_reducible apply wpList_loadAll HO); exact rfl; exact rfl; (repeat (with_reducible (first | exact At.head _ | apply At.tail))); infer_instance; exact rfl; exact rfl; (simp only [Act.put, zA, zB, zC])) | ((with_reducible apply wpList_loadOne HO); exact rfl; exact rfl; (repeat (with_reducible (first | exact At.head _ | apply At.tail))); exact rfl; infer_instance; exact rfl; (simp only [Act.put, zA, zB, zC]))) | (first | ((with_reducible apply wpList_boxAgg _ HO rfl); exact rfl; exact rfl; exact rfl; clear HO; intro b3 w HO; (simp only [Act.put, zA, zB, zC])) | ((with_reducible apply wpList_allocAgg _ HO rfl); exact rfl; infer_instance; exact rfl; clear HO; intro b3 w HO; (simp only [Act.put, zA, zB, zC]))) | (go_at_call 112; go_must ((with_reducible refine (bkNone_any (HO.boxAt (by repeat (first | exact List.mem_cons_self | apply List.mem_cons_of_mem)))).mono ?_); rintro e w ⟨rfl, hb⟩; replace HO := HO.call hb; clear hb)) | (go_at_call 142; go_must ((with_reducible refine (MY _).mono ?_); rintro e w ⟨rfl, hb⟩; replace HO := HO.call hb; clear hb)))
    go_ret
    exact ⟨rfl, HC.out _ HO.tail⟩
  rw [hm] at MY
  cases hfp : findP l p.id with
  | some q =>
    have e1 : postE l p = if q = p then 0 else 91 := by simp [postE, hm, hfp]
    have e2 : postL l p = l := by simp [postL, hfp]
    rw [e2]
    have HE := Lib.hid e1
    generalize postE l p = ex at *
    rw [hfp] at hq
    have hEq := hEq q
    clear hidn hbaln e1 e2 hm MV hB hp hfp
    generalize hx : decide (q = p) = x at *
    have HX := Lib.hid hx
    clear hx
    obtain ⟨id, o, d, c, a⟩ := p
    obtain ⟨qi, qo, qd, qc, qa⟩ := q
    simp only [pstV, pstC, Option.map_some] at *
    go_enter Tryz.func111, Tryz.ntmps111
    go_upto_region 5 with (first | (first | go_big_skip | ((with_reducible apply wpList_loadAll HO); exact rfl; exact rfl; (repeat (with_reducible (first | exact At.head _ | apply At.tail))); infer_instance; exact rfl; exact rfl; (simp only [Act.put, zA, zB, zC])) | ((with_reducible apply wpList_loadOne HO); exact rfl; exact rfl; (repeat (with_reducible (first | exact At.head _ | apply At.tail))); exact rfl; infer_instance; exact rfl; (simp only [Act.put, zA, zB, zC]))) | (first | ((with_reducible apply wpList_boxAgg _ HO rfl); exact rfl; exact rfl; exact rfl; clear HO; intro b3 w HO; (simp only [Act.put, zA, zB, zC])) | ((with_reducible apply wpList_allocAgg _ HO rfl); exact rfl; infer_instance; exact rfl; clear HO; intro b3 w HO; (simp only [Act.put, zA, zB, zC]))) | (go_at_call 112; go_must ((with_reducible refine (bkNone_any (HO.boxAt (by repeat (first | exact List.mem_cons_self | apply List.mem_cons_of_mem)))).mono ?_); rintro e w ⟨rfl, hb⟩; replace HO := HO.call hb; clear hb)) | (go_at_call 142; go_must ((with_reducible refine (MY _).mono ?_); rintro e w ⟨rfl, hb⟩; replace HO := HO.call hb; clear hb)))
    refine region_sched2 ([box b3 (.cells #[.string id, .int .i64 o, .int .i64 d, .int .i64 c, .int .i64 a] 187), box b (.cells #[v, .map (some pm), .map (some bm)] 193), mapE Tryz.prog 9 pm n1 f]) [(0, true), (1, true), (2, true), (3, true), (4, true), (5, true), (6, true), (7, true), (8, true), (9, true), (10, false), (11, false), (12, true)] HO (by with_reducible (repeat (first | exact List.nil_sublist _ | apply List.Sublist.cons_cons | apply List.Sublist.cons))) (by kernel_rfl) (by kernel_rfl) ?_
    clear HO
    intro w HO
    repeat (first | ((with_reducible apply wpSched_loadOne); exact rfl; exact rfl; exact rfl; (repeat (with_reducible (first | exact At.head _ | apply At.tail))); exact rfl; infer_instance; exact rfl; (simp only [Act.put, zA, zB, zC])) | ((with_reducible apply wpSched_mapLook1 (kt := 9) (et := 187)); exact rfl; exact rfl; exact rfl; exact rfl; (repeat (with_reducible (first | exact At.head _ | apply At.tail))); exact strKeyed; exact Tryz.underlying190; infer_instance; exact hkey; (focus (first | (rw [hq]; done) | (rw [hq]; exact rfl))); exact rfl; (simp only [Act.put, zA, zB, zC])) | ((with_reducible apply wpSched_pure); exact rfl; exact rfl; (intro w'; go_simp; try with_reducible rfl); (simp only [Act.put, zA, zB, zC])))
    ((with_reducible apply wpSched_loud); exact rfl; (first | ((with_reducible apply wpList_boxAgg _ HO rfl); exact rfl; exact rfl; exact rfl; clear HO; intro b5 w HO; (simp only [Act.put, zA, zB, zC])) | ((with_reducible apply wpList_allocAgg _ HO rfl); exact rfl; infer_instance; exact rfl; clear HO; intro b5 w HO; (simp only [Act.put, zA, zB, zC]))))
    refine wpList_nil (thenQ_keep (HO.held (by with_reducible (repeat (first | exact List.nil_sublist _ | apply List.Sublist.cons_cons | apply List.Sublist.cons)))) ?_)
    ((with_reducible apply wpSched_loud); exact rfl; ((with_reducible apply wpList_storeAll HO); exact rfl; exact rfl; exact rfl; (repeat (with_reducible (first | exact At.head _ | apply At.tail))); infer_instance; exact rfl; exact rfl; exact rfl; exact rfl; clear HO; intro w HO; (simp only [Act.put])))
    refine wpList_nil (thenQ_keep (HO.held (by with_reducible (repeat (first | exact List.nil_sublist _ | apply List.Sublist.cons_cons | apply List.Sublist.cons)))) ?_)
    ((with_reducible apply wpSched_pure); exact rfl; exact rfl; (intro w'; go_simp; try with_reducible rfl); (simp only [Act.put, zA, zB, zC]))
    refine wpSched_end ?_
    cases x
    · obtain rfl : ex = 91 := HE.out.trans (if_neg (of_decide_eq_false HX.out))
      go_wp2_with (first | (first | go_big_skip | ((with_reducible apply wpList_loadAll HO); exact rfl; exact rfl; (repeat (with_reducible (first | exact At.head _ | apply At.tail))); infer_instance; exact rfl; exact rfl; (simp only [Act.put, zA, zB, zC])) | ((with_reducible apply wpList_loadOne HO); exact rfl; exact rfl; (repeat (with_reducible (first | exact At.head _ | apply At.tail))); exact rfl; infer_instance; exact rfl; (simp only [Act.put, zA, zB, zC]))))
      go_ret
      exact ⟨rfl, HC.out _ HO.tail.tail⟩
    · obtain rfl : ex = 0 := HE.out.trans (if_pos (of_decide_eq_true HX.out))
      go_wp2_with (first | (first | go_big_skip | ((with_reducible apply wpList_loadAll HO); exact rfl; exact rfl; (repeat (with_reducible (first | exact At.head _ | apply At.tail))); infer_instance; exact rfl; exact rfl; (simp only [Act.put, zA, zB, zC])) | ((with_reducible apply wpList_loadOne HO); exact rfl; exact rfl; (repeat (with_reducible (first | exact At.head _ | apply At.tail))); exact rfl; infer_instance; exact rfl; (simp only [Act.put, zA, zB, zC]))))
      go_ret
      exact ⟨rfl, HC.out _ HO.tail.tail⟩
  | none =>
    have HN := Lib.hid hfp
    rw [hfp] at hq
    clear hEq
    cases hfit : fitsPst l p
    · have e1 : postE l p = 90 := by simp [postE, hm, hfp, hfit]
      have e2 : postL l p = l := by simp [postL, hfit]
      rw [e1, e2]
      simp only [MovesPost, hfit, Bool.false_eq_true, if_false] at MV
      clear hidn hbaln e1 e2 hm hB hp hfp hfit
      obtain ⟨id, o, d, c, a⟩ := p
      simp only [pstV, pstC, Option.map_none] at *
      go_enter Tryz.func111, Tryz.ntmps111
      go_upto_region 5 with (first | (first | go_big_skip | ((with_reducible apply wpList_loadAll HO); exact rfl; exact rfl; (repeat (with_reducible (first | exact At.head _ | apply At.tail))); infer_instance; exact rfl; exact rfl; (simp only [Act.put, zA, zB, zC])) | ((with_reducible apply wpList_loadOne HO); exact rfl; exact rfl; (repeat (with_reducible (first | exact At.head _ | apply At.tail))); exact rfl; infer_instance; exact rfl; (simp only [Act.put, zA, zB, zC]))) | (first | ((with_reducible apply wpList_boxAgg _ HO rfl); exact rfl; exact rfl; exact rfl; clear HO; intro b3 w HO; (simp only [Act.put, zA, zB, zC])) | ((with_reducible apply wpList_allocAgg _ HO rfl); exact rfl; infer_instance; exact rfl; clear HO; intro b3 w HO; (simp only [Act.put, zA, zB, zC]))) | (go_at_call 112; go_must ((with_reducible refine (bkNone_any (HO.boxAt (by repeat (first | exact List.mem_cons_self | apply List.mem_cons_of_mem)))).mono ?_); rintro e w ⟨rfl, hb⟩; replace HO := HO.call hb; clear hb)) | (go_at_call 142; go_must ((with_reducible refine (MY _).mono ?_); rintro e w ⟨rfl, hb⟩; replace HO := HO.call hb; clear hb)))
      refine region_sched2 ([box b3 (.cells #[.string id, .int .i64 o, .int .i64 d, .int .i64 c, .int .i64 a] 187), box b (.cells #[v, .map (some pm), .map (some bm)] 193), mapE Tryz.prog 9 pm n1 f]) [(0, true), (1, true), (2, true), (3, true), (4, true), (5, true), (6, true), (7, true), (8, true), (9, true), (10, false), (11, false), (12, true)] HO (by with_reducible (repeat (first | exact List.nil_sublist _ | apply List.Sublist.cons_cons | apply List.Sublist.cons))) (by kernel_rfl) (by kernel_rfl) ?_
      clear HO
      intro w HO
      repeat (first | ((with_reducible apply wpSched_loadOne); exact rfl; exact rfl; exact rfl; (repeat (with_reducible (first | exact At.head _ | apply At.tail))); exact rfl; infer_instance; exact rfl; (simp only [Act.put, zA, zB, zC])) | ((with_reducible apply wpSched_mapLook1 (kt := 9) (et := 187)); exact rfl; exact rfl; exact rfl; exact rfl; (repeat (with_reducible (first | exact At.head _ | apply At.tail))); exact strKeyed; exact Tryz.underlying190; infer_instance; exact hkey; (focus (first | (rw [hq]; done) | (rw [hq]; exact rfl))); exact rfl; (simp only [Act.put, zA, zB, zC])) | ((with_reducible apply wpSched_pure); exact rfl; exact rfl; (intro w'; go_simp; try with_reducible rfl); (simp only [Act.put, zA, zB, zC])))
      ((with_reducible apply wpSched_loud); exact rfl; (first | ((with_reducible apply wpList_boxAgg _ HO rfl); exact rfl; exact rfl; exact rfl; clear HO; intro b5 w HO; (simp only [Act.put, zA, zB, zC])) | ((with_reducible apply wpList_allocAgg _ HO rfl); exact rfl; infer_instance; exact rfl; clear HO; intro b5 w HO; (simp only [Act.put, zA, zB, zC]))))
      refine wpList_nil (thenQ_keep (HO.held (by with_reducible (repeat (first | exact List.nil_sublist _ | apply List.Sublist.cons_cons | apply List.Sublist.cons)))) ?_)
      ((with_reducible apply wpSched_loud); exact rfl; ((with_reducible apply wpList_storeAll HO); exact rfl; exact rfl; exact rfl; (repeat (with_reducible (first | exact At.head _ | apply At.tail))); infer_instance; exact rfl; exact rfl; exact rfl; exact rfl; clear HO; intro w HO; (simp only [Act.put])))
      refine wpList_nil (thenQ_keep (HO.held (by with_reducible (repeat (first | exact List.nil_sublist _ | apply List.Sublist.cons_cons | apply List.Sublist.cons)))) ?_)
      ((with_reducible apply wpSched_pure); exact rfl; exact rfl; (intro w'; go_simp; try with_reducible rfl); (simp only [Act.put, zA, zB, zC]))
      refine wpSched_end ?_
      go_wp2_with (first | (first | go_big_skip | ((with_reducible apply wpList_loadAll HO); exact rfl; exact rfl; (repeat (with_reducible (first | exact At.head _ | apply At.tail))); infer_instance; exact rfl; exact rfl; (simp only [Act.put, zA, zB, zC])) | ((with_reducible apply wpList_loadOne HO); exact rfl; exact rfl; (repeat (with_reducible (first | exact At.head _ | apply At.tail))); exact rfl; infer_instance; exact rfl; (simp only [Act.put, zA, zB, zC]))) | (go_at_call 143; go_must ((with_reducible refine (MV _ (Own.bkOf HO (by repeat (first | exact List.mem_cons_self | apply List.mem_cons_of_mem)) (by repeat (first | exact List.mem_cons_self | apply List.mem_cons_of_mem)) (by repeat (first | exact List.mem_cons_self | apply List.mem_cons_of_mem)) (by repeat (first | exact List.mem_cons_self | apply List.mem_cons_of_mem)) hn1 hf hn2 hg)).mono ?_); rintro e w ⟨rfl, hb⟩; replace HO := HO.call hb; clear hb)))
      go_ret
      exact ⟨rfl, HC.out _ HO.tail.tail⟩
    · have e1 : postE l p = 0 := by simp [postE, hm, hfp, hfit]
      have e2 : postL l p = l ++ [p] := by simp [postL, hm, hfp, hfit]
      rw [e1, e2]
      simp only [MovesPost, hfit, if_true] at MV
      replace hidn := Lib.hid (hidn.out hfp)
      replace hbaln := Lib.hid (hbaln.out hm)
      have hmi := movesF_int l p
      have hpc : (l ++ [p]).map pstC = l.map pstC ++ [pstC p] := by simp
      generalize movesF l p = mv at *
      clear e1 e2 hm hB hp hfp hfit
      generalize hlp : l ++ [p] = lp at *
      replace hpc := Lib.hid hpc
      replace hlp := Lib.hid hlp
      obtain ⟨id, o, d, c, a⟩ := p
      simp only [pstV, pstC, Option.map_none] at *
      go_enter Tryz.func111, Tryz.ntmps111
      go_upto_region 5 with (first | (first | go_big_skip | ((with_reducible apply wpList_loadAll HO); exact rfl; exact rfl; (repeat (with_reducible (first | exact At.head _ | apply At.tail))); infer_instance; exact rfl; exact rfl; (simp only [Act.put, zA, zB, zC])) | ((with_reducible apply wpList_loadOne HO); exact rfl; exact rfl; (repeat (with_reducible (first | exact At.head _ | apply At.tail))); exact rfl; infer_instance; exact rfl; (simp only [Act.put, zA, zB, zC]))) | (first | ((with_reducible apply wpList_boxAgg _ HO rfl); exact rfl; exact rfl; exact rfl; clear HO; intro b3 w HO; (simp only [Act.put, zA, zB, zC])) | ((with_reducible apply wpList_allocAgg _ HO rfl); exact rfl; infer_instance; exact rfl; clear HO; intro b3 w HO; (simp only [Act.put, zA, zB, zC]))) | (go_at_call 112; go_must ((with_reducible refine (bkNone_any (HO.boxAt (by repeat (first | exact List.mem_cons_self | apply List.mem_cons_of_mem)))).mono ?_); rintro e w ⟨rfl, hb⟩; replace HO := HO.call hb; clear hb)) | (go_at_call 142; go_must ((with_reducible refine (MY _).mono ?_); rintro e w ⟨rfl, hb⟩; replace HO := HO.call hb; clear hb)))
      refine region_sched2 ([box b3 (.cells #[.string id, .int .i64 o, .int .i64 d, .int .i64 c, .int .i64 a] 187), box b (.cells #[v, .map (some pm), .map (some bm)] 193), mapE Tryz.prog 9 pm n1 f]) [(0, true), (1, true), (2, true), (3, true), (4, true), (5, true), (6, true), (7, true), (8, true), (9, true), (10, false), (11, false), (12, true)] HO (by with_reducible (repeat (first | exact List.nil_sublist _ | apply List.Sublist.cons_cons | apply List.Sublist.cons))) (by kernel_rfl) (by kernel_rfl) ?_
      clear HO
      intro w HO
      repeat (first | ((with_reducible apply wpSched_loadOne); exact rfl; exact rfl; exact rfl; (repeat (with_reducible (first | exact At.head _ | apply At.tail))); exact rfl; infer_instance; exact rfl; (simp only [Act.put, zA, zB, zC])) | ((with_reducible apply wpSched_mapLook1 (kt := 9) (et := 187)); exact rfl; exact rfl; exact rfl; exact rfl; (repeat (with_reducible (first | exact At.head _ | apply At.tail))); exact strKeyed; exact Tryz.underlying190; infer_instance; exact hkey; (focus (first | (rw [hq]; done) | (rw [hq]; exact rfl))); exact rfl; (simp only [Act.put, zA, zB, zC])) | ((with_reducible apply wpSched_pure); exact rfl; exact rfl; (intro w'; go_simp; try with_reducible rfl); (simp only [Act.put, zA, zB, zC])))
      ((with_reducible apply wpSched_loud); exact rfl; (first | ((with_reducible apply wpList_boxAgg _ HO rfl); exact rfl; exact rfl; exact rfl; clear HO; intro b5 w HO; (simp only [Act.put, zA, zB, zC])) | ((with_reducible apply wpList_allocAgg _ HO rfl); exact rfl; infer_instance; exact rfl; clear HO; intro b5 w HO; (simp only [Act.put, zA, zB, zC]))))
      refine wpList_nil (thenQ_keep (HO.held (by with_reducible (repeat (first | exact List.nil_sublist _ | apply List.Sublist.cons_cons | apply List.Sublist.cons)))) ?_)
      ((with_reducible apply wpSched_loud); exact rfl; ((with_reducible apply wpList_storeAll HO); exact rfl; exact rfl; exact rfl; (repeat (with_reducible (first | exact At.head _ | apply At.tail))); infer_instance; exact rfl; exact rfl; exact rfl; exact rfl; clear HO; intro w HO; (simp only [Act.put])))
      refine wpList_nil (thenQ_keep (HO.held (by with_reducible (repeat (first | exact List.nil_sublist _ | apply List.Sublist.cons_cons | apply List.Sublist.cons)))) ?_)
      ((with_reducible apply wpSched_pure); exact rfl; exact rfl; (intro w'; go_simp; try with_reducible rfl); (simp only [Act.put, zA, zB, zC]))
      refine wpSched_end ?_
      go_upto_region 14 with (first | (first | go_big_skip | ((with_reducible apply wpList_loadAll HO); exact rfl; exact rfl; (repeat (with_reducible (first | exact At.head _ | apply At.tail))); infer_instance; exact rfl; exact rfl; (simp only [Act.put, zA, zB, zC])) | ((with_reducible apply wpList_loadOne HO); exact rfl; exact rfl; (repeat (with_reducible (first | exact At.head _ | apply At.tail))); exact rfl; infer_instance; exact rfl; (simp only [Act.put, zA, zB, zC]))) | (go_at_call 143; go_must ((with_reducible refine (MV _ (Own.bkOf HO (by repeat (first | exact List.mem_cons_self | apply List.mem_cons_of_mem)) (by repeat (first | exact List.mem_cons_self | apply List.mem_cons_of_mem)) (by repeat (first | exact List.mem_cons_self | apply List.mem_cons_of_mem)) (by repeat (first | exact List.mem_cons_self | apply List.mem_cons_of_mem)) hn1 hf hn2 hg)).mono ?_); rintro e w ⟨om, rfl, HO1⟩; replace HO := HO.lift HO1; clear HO1; simp only [List.cons_append, List.nil_append] at HO; replace HO := HO.perm ((List.perm_middle (l₁ := [_, _, _, _, _])).cons _); simp only [List.cons_append, List.nil_append] at HO)) | (go_at_call 144; go_must ((with_reducible refine (mapsCopy_any HO (by omega) (fun k _ v h => hmi k v h)).mono ?_); clear HO; rintro e w ⟨rfl, HO⟩)))
      refine region_sched2 ([box b3 (.cells #[.string id, .int .i64 o, .int .i64 d, .int .i64 c, .int .i64 a] 187), box b (.cells #[v, .map (some pm), .map (some bm)] 193)]) [(0, true), (1, true), (2, true), (3, true), (4, true), (5, true), (6, true), (7, false)] HO (by with_reducible (repeat (first | exact List.nil_sublist _ | apply List.Sublist.cons_cons | apply List.Sublist.cons))) (by kernel_rfl) (by kernel_rfl) ?_
      clear HO
      intro w HO
      repeat (first | ((with_reducible apply wpSched_loadOne); exact rfl; exact rfl; exact rfl; (repeat (with_reducible (first | exact At.head _ | apply At.tail))); exact rfl; infer_instance; exact rfl; (simp only [Act.put, zA, zB, zC])) | ((with_reducible apply wpSched_loadAll); exact rfl; exact rfl; exact rfl; (repeat (with_reducible (first | exact At.head _ | apply At.tail))); infer_instance; exact rfl; exact rfl; (simp only [Act.put, zA, zB, zC])) | ((with_reducible apply wpSched_pure); exact rfl; exact rfl; (intro w'; go_simp; try with_reducible rfl); (simp only [Act.put, zA, zB, zC])))
      ((with_reducible apply wpSched_loud); exact rfl; ((with_reducible apply wpList_mapPut HO (kt := 9) (et := 187)); exact rfl; exact rfl; exact rfl; (first | (simp [Act.eval]; rfl) | exact rfl); (repeat (with_reducible (first | exact At.head _ | apply At.tail))); exact strKeyed; exact Tryz.underlying190; exact hlt1; exact hkey; exact rfl; clear HO; intro w HO; (simp only [Act.put])))
      refine wpList_nil (thenQ_keep (HO.held (by with_reducible (repeat (first | exact List.nil_sublist _ | apply List.Sublist.cons_cons | apply List.Sublist.cons)))) ?_)
      refine wpSched_end ?_
      go_upto_region 15 with fail
      refine region_sched2 ([box b3 (.cells #[.string id, .int .i64 o, .int .i64 d, .int .i64 c, .int .i64 a] 187), box b (.cells #[v, .map (some pm), .map (some bm)] 193)]) [(0, true), (1, true), (2, true), (3, true), (4, true), (5, true), (6, false), (7, false), (8, true), (9, true), (10, false)] HO (by with_reducible (repeat (first | exact List.nil_sublist _ | apply List.Sublist.cons_cons | apply List.Sublist.cons))) (by kernel_rfl) (by kernel_rfl) ?_
      clear HO
      intro w HO
      repeat (first | ((with_reducible apply wpSched_loadOne); exact rfl; exact rfl; exact rfl; (repeat (with_reducible (first | exact At.head _ | apply At.tail))); exact rfl; infer_instance; exact rfl; (simp only [Act.put, zA, zB, zC])) | ((with_reducible apply wpSched_loadAll); exact rfl; exact rfl; exact rfl; (repeat (with_reducible (first | exact At.head _ | apply At.tail))); infer_instance; exact rfl; exact rfl; (simp only [Act.put, zA, zB, zC])) | ((with_reducible apply wpSched_pure); exact rfl; exact rfl; (intro w'; go_simp; try with_reducible rfl); (simp only [Act.put, zA, zB, zC])))
      ((with_reducible apply wpSched_loud); exact rfl; (first | ((with_reducible apply wpList_lit1 HO); exact rfl; infer_instance; infer_instance; exact rfl; exact rfl; exact (by decide); exact rfl; clear HO; intro bl w HO; (simp only [Act.put, zA, zB, zC])) | ((with_reducible apply wpList_lit1c HO); exact rfl; infer_instance; infer_instance; (first | (simp [Act.eval]; rfl) | exact rfl); exact rfl; exact rfl; clear HO; intro bl w HO; (simp only [Act.put, zA, zB, zC]))))
      refine wpList_nil (thenQ_keep (HO.held (by with_reducible (repeat (first | exact List.nil_sublist _ | apply List.Sublist.cons_cons | apply List.Sublist.cons)))) ?_)
      ((with_reducible apply wpSched_loud); exact rfl; ((with_reducible apply wpList_push1 HO); exact rfl; infer_instance; infer_instance; (first | (simp [Act.eval]; rfl) | exact rfl); exact rfl; intro _; (repeat (with_reducible (first | exact At.head _ | apply At.tail))); exact rfl; exact rfl; (first | omega | (simp; omega)); decide; exact rfl; clear HO; intro v2 w HO hv2; (simp only [Act.put, zA, zB, zC])))
      obtain ⟨p9, n9, c9, rfl⟩ := hv2
      refine wpList_nil (thenQ_free (by kernel_rfl) ?_)
      repeat ((with_reducible apply wpSched_pure); exact rfl; exact rfl; (intro w'; go_simp; try with_reducible rfl); (simp only [Act.put, zA, zB, zC]))
      ((with_reducible apply wpSched_loud); exact rfl; ((with_reducible apply wpList_storeOne HO); exact rfl; exact rfl; (first | (simp [Act.eval]; rfl) | exact rfl); exact rfl; (repeat (with_reducible (first | exact At.head _ | apply At.tail))); infer_instance; exact (by simp); (simp only [List.set_cons_zero]; rfl); exact rfl; clear HO; intro w HO; (simp only [Act.put])))
      refine wpList_nil (thenQ_free (by kernel_rfl) ?_)
      refine wpSched_end ?_
      go_wp2_with fail
      go_ret
      refine ⟨rfl, .slice p9 n9 c9, ?_⟩
      have h1 := (HO.sub (.cons _ (.cons_cons _ (.cons _ (.cons _ (List.Sublist.refl _)))))).perm (List.perm_middle (l₁ := [_, _, _])).symm
      simp only [List.cons_append, List.nil_append] at h1
      have hll : lp.length = l.length + 1 := by rw [← hlp.out]; simp
      have h2 := Own.balClose (Own.idClose h1 (.tail _ _ _ (.tail _ _ _ (.head _))) (by rw [hll]; omega) hidn.out) (.tail _ _ _ (.tail _ _ _ (.tail _ _ _ (.head _)))) (by rw [hll]; omega) hbaln.out
      show Own W w (box b _ :: row _ 5 (.slice p9 n9 c9) (lp.map pstC) :: _ :: _ :: M)
      rw [hpc.out]
      exact h2
/-- The same, wherever the books stand among the caller's own memory. -/
theorem bkPost_any {W w : World} {L : List Ent} {L' : Value → List Ent} {b : Nat} {v : Value} {pm bm : Nat} {l : List Pst} (p : Pst) (HO : Own W w L) (hat : ∀ v', At (bkE b v pm bm l) (bkE b v' pm bm (postL l p)) L (L' v')) (hB : Bk l) (hp : WfP p) (hlen : l.length ≤ 100000) :
    Calls Tryz.prog 111 #[.pointer (some ⟨b, 0, none⟩), pstV p] w fun e w' => e = .returned (.int .i64 (postE l p)) ∧ ∃ v', Own W w' (L' v') := by
  obtain ⟨M, p1, p2⟩ := At.fronts hat v
  refine (bkPost_own p (HO.perm p1).unjoin hB hp hlen).mono fun e w' h => ?_
  obtain ⟨rfl, v', h1⟩ := h
  exact ⟨rfl, v', (Own.join h1).perm (p2 v').symm⟩
end Go.Proofs.YtibabfedpdoofaaGreatDoor
namespace Go.Proofs.YtibabfedpdoofaaGreatDoor
open Go.RowKit Go.Own

end Go.Proofs.YtibabfedpdoofaaGreatDoor
namespace Go.Proofs.YtibabfedpdoofaaGreatDoor
open Go.RowKit Go.Own

end Go.Proofs.YtibabfedpdoofaaGreatDoor
namespace Go.Proofs.YtibabfedpdoofaaGreatDoor
open Go.RowKit Go.Own

end Go.Proofs.YtibabfedpdoofaaGreatDoor
namespace Go.Proofs.YtibabfedpdoofaaGreatDoor
open Go.RowKit Go.Own

def nameByte (c : Nat) : Bool := (decide (65 ≤ c) && decide (c ≤ 90)) || (decide (97 ≤ c) && decide (c ≤ 122)) || (decide (48 ≤ c) && decide (c ≤ 57)) || decide (c = 45) || decide (c = 95)
def isName (l : List UInt8) : Bool := l.all fun c => nameByte c.toNat
theorem isName_not {l : List UInt8} {i : Nat} (h : i < l.length) (hc : nameByte l[i].toNat = false) : isName l = false := by
  unfold isName
  rw [List.all_eq_false]
  exact ⟨l[i], List.getElem_mem _, by simp [hc]⟩
theorem isName_all {l : List UInt8} (h : ∀ c ∈ l.take l.length, nameByte c.toNat = true) : isName l = true := by
  rw [List.take_length] at h
  exact List.all_eq_true.2 h
theorem name_snoc {l : List UInt8} {i : Nat} (h : i < l.length) (hp : ∀ c ∈ l.take i, nameByte c.toNat = true) (hc : nameByte l[i].toNat = true) : ∀ c ∈ l.take (i + 1), nameByte c.toNat = true := by
  rw [List.take_succ_eq_append_getElem h]
  intro c hm
  rcases List.mem_append.1 hm with h1 | h1
  · exact hp c h1
  · rw [List.mem_singleton.1 h1]; exact hc

theorem nameByte_iff {c : Nat} : nameByte c = true ↔ (65 ≤ c ∧ c ≤ 90) ∨ (97 ≤ c ∧ c ≤ 122) ∨ (48 ≤ c ∧ c ≤ 57) ∨ c = 45 ∨ c = 95 := by
  simp [nameByte, or_assoc]
theorem nameByte_iff_not {c : Nat} : nameByte c = false ↔ ¬ ((65 ≤ c ∧ c ≤ 90) ∨ (97 ≤ c ∧ c ≤ 122) ∨ (48 ≤ c ∧ c ≤ 57) ∨ c = 45 ∨ c = 95) := by
  rw [← nameByte_iff]; simp

set_option maxHeartbeats 1000000 in
theorem refName_any (l : List UInt8) (w : World) (hl : l.length ≤ maxLen) : Calls Tryz.prog 132 #[.string ⟨l.toArray⟩] w fun e w' => e = .returned (.bool (isName l)) ∧ Below w.heap.size w w' := by
  unfold maxLen at hl
  go_enter Tryz.func132, Tryz.ntmps132
  go_wp2_with fail
  go_loop [3] (fun c => ∃ i : Nat, i ≤ l.length ∧ c = .int .i64 i ∧ (∀ c ∈ l.take i, nameByte c.toNat = true)) (fun c => l.length - (intOf c).toNat)
  case atStart => exact ⟨0, by omega, rfl, by simp⟩
  case round =>
    obtain ⟨i, h1, rfl, h3⟩ := hrel
    have H3 := Lib.hid h3
    clear h3
    by_cases hi : i < l.length
    · have hlt : (i : Int) < (l.length : Int) := by omega
      cases hn : nameByte l[i].toNat
      · have HN := Lib.hid hn
        have hc : ¬ ((65 ≤ (l[i].toNat : Int) ∧ (l[i].toNat : Int) ≤ 90) ∨ (97 ≤ (l[i].toNat : Int) ∧ (l[i].toNat : Int) ≤ 122) ∨ (48 ≤ (l[i].toNat : Int) ∧ (l[i].toNat : Int) ≤ 57) ∨ (l[i].toNat : Int) = 45 ∨ (l[i].toNat : Int) = 95) := by
          have := nameByte_iff_not.1 hn; omega
        have e1 : ((l[i].toNat : Int) == 45) = false := by simp; omega
        have e2 : ((l[i].toNat : Int) == 95) = false := by simp; omega
        have HC := Lib.hid hc
        have HF := Lib.hid (isName_not hi hn)
        clear hn hc
        go_wp2_with fail
        all_goals first
          | (go_ret; exact ⟨ret_bool HF.out.symm, Below.refl _ _⟩)
          | (exfalso; have hh := HC.out; clear HC; simp at *; omega)
      · have HN := Lib.hid hn
        have hc : ((65 ≤ (l[i].toNat : Int) ∧ (l[i].toNat : Int) ≤ 90) ∨ (97 ≤ (l[i].toNat : Int) ∧ (l[i].toNat : Int) ≤ 122) ∨ (48 ≤ (l[i].toNat : Int) ∧ (l[i].toNat : Int) ≤ 57) ∨ (l[i].toNat : Int) = 45 ∨ (l[i].toNat : Int) = 95) := by
          have := nameByte_iff.1 hn; omega
        have HC := Lib.hid hc
        clear hn hc
        go_wp2_with fail
        all_goals first
          | (go_round
             case rel => exact ⟨i + 1, by omega, by go_num, name_snoc hi H3.out HN.out⟩
             case measure => simp [intOf] <;> omega)
          | (exfalso; rcases HC.out with h | h | h | h | h <;> first | omega | (simp_all; done))
    · have : i = l.length := by omega
      subst this
      have HF := Lib.hid (isName_all H3.out)
      go_wp2_with fail
      go_ret
      exact ⟨ret_bool HF.out.symm, Below.refl _ _⟩

set_option maxHeartbeats 1000000 in
theorem name_any (l : List UInt8) (w : World) (hl : l.length ≤ maxLen) : Calls Tryz.prog 154 #[.string ⟨l.toArray⟩] w fun e w' => e = .returned (.bool (isName l)) ∧ Below w.heap.size w w' := by
  unfold maxLen at hl
  have hB : ∀ p, Below w.heap.size w (w.iter ⟨l.toArray⟩ p) := fun p => (Below.refl _ _).alloc (Nat.le_refl _) _
  have HB := Lib.hid hB
  clear hB
  go_enter Tryz.func154, Tryz.ntmps154
  go_wp2_with fail
  go_loopw [4] (fun c wr => ∃ i : Nat, i ≤ l.length ∧ wr = w.iter ⟨l.toArray⟩ i ∧ (∀ c ∈ l.take i, nameByte c.toNat = true)) (fun _ wr => l.length - wr.iterPos w.heap.size)
  case atStart => exact ⟨0, by omega, rfl, by simp⟩
  case round =>
    obtain ⟨i, h1, rfl, h3⟩ := hrel
    have H3 := Lib.hid h3
    clear h3
    by_cases hi : i < l.length
    · have hlt : (i : Int) < (l.length : Int) := by omega
      by_cases ha : l[i].toNat < 128
      · have hnx := fun ty => run_next_ascii (P := Tryz.prog) w ⟨l.toArray⟩ i ty hi ha
        cases hn : nameByte l[i].toNat
        · have HN := Lib.hid hn
          have hc : ¬ ((65 ≤ (l[i].toNat : Int) ∧ (l[i].toNat : Int) ≤ 90) ∨ (97 ≤ (l[i].toNat : Int) ∧ (l[i].toNat : Int) ≤ 122) ∨ (48 ≤ (l[i].toNat : Int) ∧ (l[i].toNat : Int) ≤ 57) ∨ (l[i].toNat : Int) = 45 ∨ (l[i].toNat : Int) = 95) := by
            have := nameByte_iff_not.1 hn; omega
          have e1 : ((l[i].toNat : Int) == 45) = false := by simp; omega
          have e2 : ((l[i].toNat : Int) == 95) = false := by simp; omega
          have HC := Lib.hid hc
          have HF := Lib.hid (isName_not hi hn)
          clear hn hc
          go_wp2_with fail
          all_goals first
            | (go_ret; exact ⟨ret_bool HF.out.symm, HB.out _⟩)
            | (exfalso; have hh := HC.out; clear HC; simp at *; omega)
        · have HN := Lib.hid hn
          have hc : ((65 ≤ (l[i].toNat : Int) ∧ (l[i].toNat : Int) ≤ 90) ∨ (97 ≤ (l[i].toNat : Int) ∧ (l[i].toNat : Int) ≤ 122) ∨ (48 ≤ (l[i].toNat : Int) ∧ (l[i].toNat : Int) ≤ 57) ∨ (l[i].toNat : Int) = 45 ∨ (l[i].toNat : Int) = 95) := by
            have := nameByte_iff.1 hn; omega
          have HC := Lib.hid hc
          clear hn hc
          go_wp2_with fail
          all_goals first
            | (go_roundw
               case rel => exact ⟨i + 1, by omega, rfl, name_snoc hi H3.out HN.out⟩
               case measure => simp <;> omega)
            | (exfalso; rcases HC.out with h | h | h | h | h <;> first | omega | (simp_all; done))
      · have hdh := (decode_high ⟨l.toArray⟩ i hi (by show 128 ≤ l[i].toNat; omega)).1
        have hnx := fun ty => run_next_any (P := Tryz.prog) w ⟨l.toArray⟩ i ty hi
        have HF := Lib.hid (isName_not hi (nameByte_iff_not.2 (by omega)))
        generalize Utf8.decode ⟨l.toArray⟩ i = d at hdh hnx
        have hd1 : (128 : Int) ≤ (d.1 : Int) := by omega
        clear hdh
        have e1 : ((d.1 : Int) == 45) = false := by simp; omega
        have e2 : ((d.1 : Int) == 95) = false := by simp; omega
        go_wp2_with fail
        all_goals (go_ret; exact ⟨ret_bool HF.out.symm, HB.out _⟩)
    · have : i = l.length := by omega
      subst this
      have HF := Lib.hid (isName_all H3.out)
      have hnx := fun ty => run_next_end (P := Tryz.prog) w ⟨l.toArray⟩ l.length ty (by simp [ByteArray.size])
      go_wp2_with fail
      go_ret
      exact ⟨ret_bool HF.out.symm, HB.out _⟩
end Go.Proofs.YtibabfedpdoofaaGreatDoor
namespace Go.Proofs.YtibabfedpdoofaaGreatDoor
open Go.RowKit Go.Own

/-- What is wrong with an order. -/
def ordCheck (id : Int) (ref sku : List UInt8) (qty amt : Int) : Int :=
  if id < 1 ∨ 60 < id ∨ qty < 1 ∨ 999 < qty ∨ amt < 1 ∨ 1099511627776 < amt ∨ ref = [] ∨ sku = [] then 2
  else if 16 < ref.length ∨ 8 < sku.length then 3
  else if isName ref = true ∧ isName sku = true then 0 else 2

set_option maxHeartbeats 2000000 in
theorem ordCheck_any (id : Int) (ref sku : List UInt8) (qty amt : Int) (w : World) (h1 : ref.length ≤ maxLen) (h2 : sku.length ≤ maxLen) :
    Calls Tryz.prog 125 #[.agg #[.int .i64 id, .string ⟨ref.toArray⟩, .string ⟨sku.toArray⟩, .int .i64 qty, .int .i64 amt]] w fun e w' => e = .returned (.int .i64 (ordCheck id ref sku qty amt)) ∧ Below w.heap.size w w' := by
  have N1 := fun w => name_any ref w h1
  have N2 := fun w => name_any sku w h2
  unfold maxLen at h1 h2
  go_enter Tryz.func125, Tryz.ntmps125
  go_wp2_with (go_at_call 154; go_must ((first | (with_reducible refine (N1 _).mono ?_) | (with_reducible refine (N2 _).mono ?_)); rintro e w1 ⟨rfl, hb⟩; obtain ⟨hc, hf⟩ := bcell hb; have hz := hb.size; (try simp at hz); (try have hzT := Nat.lt_of_succ_le hz)))
  all_goals (go_ret; refine ⟨ret_int ?_, (by with_reducible (repeat (first | assumption | exact Below.refl _ _ | refine Below.drew ?_ | refine below_drewN ?_ _ | refine Below.alloc ?_ (by first | (simp; done) | omega | (simp; omega)) _ | refine Below.setCell ?_ (by first | (simp; done) | omega | (simp; omega)) _ | refine Below.trans ?_ (Below.mono (by assumption) (by first | (simp; done) | omega | (simp; omega))))))⟩)
  all_goals clear N1 N2
  all_goals try clear hb hc hf
  all_goals try clear hb hc hf
  all_goals first | (simp_all [ordCheck]; done) | (simp_all [ordCheck]; omega) | grind [ordCheck]

set_option maxHeartbeats 2000000 in
theorem refOrdCheck_any (id : Int) (ref sku : List UInt8) (qty amt : Int) (w : World) (h1 : ref.length ≤ maxLen) (h2 : sku.length ≤ maxLen) :
    Calls Tryz.prog 83 #[.agg #[.int .i64 id, .string ⟨ref.toArray⟩, .string ⟨sku.toArray⟩, .int .i64 qty, .int .i64 amt]] w fun e w' => e = .returned (.int .i64 (ordCheck id ref sku qty amt)) ∧ Below w.heap.size w w' := by
  have N1 := fun w => refName_any ref w h1
  have N2 := fun w => refName_any sku w h2
  unfold maxLen at h1 h2
  go_enter Tryz.func83, Tryz.ntmps83
  go_wp2_with (go_at_call 132; go_must ((first | (with_reducible refine (N1 _).mono ?_) | (with_reducible refine (N2 _).mono ?_)); rintro e w1 ⟨rfl, hb⟩; obtain ⟨hc, hf⟩ := bcell hb; have hz := hb.size; (try simp at hz); (try have hzT := Nat.lt_of_succ_le hz)))
  all_goals (go_ret; refine ⟨ret_int ?_, (by with_reducible (repeat (first | assumption | exact Below.refl _ _ | refine Below.drew ?_ | refine below_drewN ?_ _ | refine Below.alloc ?_ (by first | (simp; done) | omega | (simp; omega)) _ | refine Below.setCell ?_ (by first | (simp; done) | omega | (simp; omega)) _ | refine Below.trans ?_ (Below.mono (by assumption) (by first | (simp; done) | omega | (simp; omega))))))⟩)
  all_goals clear N1 N2
  all_goals try clear hb hc hf
  all_goals try clear hb hc hf
  all_goals first | (simp_all [ordCheck, List.length_eq_zero_iff]; done) | (simp_all [ordCheck, List.length_eq_zero_iff]; omega) | grind [ordCheck, List.length_eq_zero_iff]

theorem ordCheck_ok {id : Int} {ref sku : List UInt8} {qty amt : Int} (h : ordCheck id ref sku qty amt = 0) :
    1 ≤ id ∧ id ≤ 60 ∧ 1 ≤ qty ∧ qty ≤ 999 ∧ 1 ≤ amt ∧ amt ≤ 1099511627776 ∧ ref ≠ [] ∧ sku ≠ [] ∧ ref.length ≤ 16 ∧ sku.length ≤ 8 ∧ isName ref = true ∧ isName sku = true := by
  unfold ordCheck at h
  split at h
  · cases h
  · split at h
    · cases h
    · split at h
      · rename_i a b c
        simp only [not_or] at a b
        obtain ⟨c1, c2⟩ := c
        exact ⟨by omega, by omega, by omega, by omega, by omega, by omega, a.2.2.2.2.2.2.1, a.2.2.2.2.2.2.2, by omega, by omega, c1, c2⟩
      · cases h
end Go.Proofs.YtibabfedpdoofaaGreatDoor
namespace Go.Proofs.YtibabfedpdoofaaGreatDoor
open Go.RowKit Go.Own

def isDeed (d : Int) : Bool := decide (0 ≤ d) && decide (d < 6)
def keyOk (o d : Int) : Bool := decide (1 ≤ o) && decide (o ≤ 60) && isDeed d
def partyOf (d : Int) : Int := if d = 0 then 1 else if d = 1 then 0 else if d = 2 then 2 else if d = 3 then 1 else if d = 4 then 0 else if d = 5 then 2 else -1
def keyLess (a b c d : Int) : Bool := decide (a < c) || (decide (a = c) && decide (b < d))

/-- The table of parties lies in memory. -/
def Laid (w : World) : Prop := 2 < w.heap.size ∧ w.cell? ⟨2, 0, none⟩ = some (.int .i64 1) ∧ w.cell? ⟨2, 1, none⟩ = some (.int .i64 0) ∧ w.cell? ⟨2, 2, none⟩ = some (.int .i64 2) ∧
  w.cell? ⟨2, 3, none⟩ = some (.int .i64 1) ∧ w.cell? ⟨2, 4, none⟩ = some (.int .i64 0) ∧ w.cell? ⟨2, 5, none⟩ = some (.int .i64 2)
theorem Laid.below {B : Nat} {w w' : World} (h : Laid w) (hb : Below B w w') (hB : 2 < B) : Laid w' := by
  have hs := hb.size
  obtain ⟨h0, h⟩ := h
  obtain ⟨hc, _⟩ := bcell hb
  refine ⟨by omega, ?_⟩
  rw [hc _ 0 hB, hc _ 1 hB, hc _ 2 hB, hc _ 3 hB, hc _ 4 hB, hc _ 5 hB]
  exact h

theorem is_any (d : Int) (w : World) : Calls Tryz.prog 173 #[.int .i64 d] w fun e w' => e = .returned (.bool (isDeed d)) ∧ Below w.heap.size w w' := by
  by_cases h : 0 ≤ d
  · go_enter Tryz.func173, Tryz.ntmps173
    go_wp2
    go_ret
    exact ⟨by simp [isDeed, h], (by with_reducible (repeat (first | exact Below.refl _ _ | assumption | refine Below.drew ?_ | refine below_drewN ?_ _ | refine Below.alloc ?_ (by first | (simp; done) | omega | (simp; omega)) _ | refine Below.setCell ?_ (by first | (simp; done) | omega | (simp; omega)) _)))⟩
  · go_enter Tryz.func173, Tryz.ntmps173
    go_wp2
    go_ret
    exact ⟨by simp [isDeed, show ¬ 0 ≤ d by omega], (by with_reducible (repeat (first | exact Below.refl _ _ | assumption | refine Below.drew ?_ | refine below_drewN ?_ _ | refine Below.alloc ?_ (by first | (simp; done) | omega | (simp; omega)) _ | refine Below.setCell ?_ (by first | (simp; done) | omega | (simp; omega)) _)))⟩

theorem party_any (d : Int) (w : World) (hL : Laid w) : Calls Tryz.prog 203 #[.int .i64 d] w fun e w' => e = .returned (.int .i64 (partyOf d)) ∧ Below w.heap.size w w' := by
  obtain ⟨h0, c0, c1, c2, c3, c4, c5⟩ := hL
  by_cases h : 0 ≤ d ∧ d < 6
  · have hd : d = 0 ∨ d = 1 ∨ d = 2 ∨ d = 3 ∨ d = 4 ∨ d = 5 := by omega
    rcases hd with rfl | rfl | rfl | rfl | rfl | rfl
    all_goals
      go_enter Tryz.func203, Tryz.ntmps203
      go_wp2
      go_ret
      exact ⟨rfl, (by with_reducible (repeat (first | exact Below.refl _ _ | assumption | refine Below.drew ?_ | refine below_drewN ?_ _ | refine Below.alloc ?_ (by first | (simp; done) | omega | (simp; omega)) _ | refine Below.setCell ?_ (by first | (simp; done) | omega | (simp; omega)) _)))⟩
  · have hn : isDeed d = false := by simp [isDeed]; omega
    have hp : partyOf d = -1 := by unfold partyOf; repeat (rw [if_neg (by omega)])
    go_enter Tryz.func203, Tryz.ntmps203
    go_wp2_with (go_at_call 173; go_must (refine (is_any _ _).mono ?_; rintro e w1 ⟨rfl, hb⟩))
    go_ret
    exact ⟨ret_int hp.symm, hb⟩

theorem refParty_any (d : Int) (w : World) : Calls Tryz.prog 164 #[.int .i64 d] w fun e w' => e = .returned (.int .i64 (partyOf d)) ∧ Below w.heap.size w w' := by
  by_cases h : 0 ≤ d ∧ d < 6
  · have hd : d = 0 ∨ d = 1 ∨ d = 2 ∨ d = 3 ∨ d = 4 ∨ d = 5 := by omega
    rcases hd with rfl | rfl | rfl | rfl | rfl | rfl
    all_goals
      go_enter Tryz.func164, Tryz.ntmps164
      go_wp2
      go_ret
      exact ⟨rfl, (by with_reducible (repeat (first | exact Below.refl _ _ | assumption | refine Below.drew ?_ | refine below_drewN ?_ _ | refine Below.alloc ?_ (by first | (simp; done) | omega | (simp; omega)) _ | refine Below.setCell ?_ (by first | (simp; done) | omega | (simp; omega)) _)))⟩
  · have hp : partyOf d = -1 := by unfold partyOf; repeat (rw [if_neg (by omega)])
    by_cases h1 : d < 0
    all_goals
      go_enter Tryz.func164, Tryz.ntmps164
      go_wp2
      go_ret
      first | exact ⟨ret_int hp.symm, (by with_reducible (repeat (first | exact Below.refl _ _ | assumption | refine Below.drew ?_ | refine below_drewN ?_ _ | refine Below.alloc ?_ (by first | (simp; done) | omega | (simp; omega)) _ | refine Below.setCell ?_ (by first | (simp; done) | omega | (simp; omega)) _)))⟩ | exact ⟨rfl, (by with_reducible (repeat (first | exact Below.refl _ _ | assumption | refine Below.drew ?_ | refine below_drewN ?_ _ | refine Below.alloc ?_ (by first | (simp; done) | omega | (simp; omega)) _ | refine Below.setCell ?_ (by first | (simp; done) | omega | (simp; omega)) _)))⟩

theorem keyCheck_any (o d : Int) (w : World) : Calls Tryz.prog 156 #[.agg #[.int .i64 o, .int .i64 d]] w fun e w' => e = .returned (.bool (keyOk o d)) ∧ Below w.heap.size w w' := by
  go_enter Tryz.func156, Tryz.ntmps156
  go_wp2_with (go_at_call 173; go_must (refine (is_any _ _).mono ?_; rintro e w1 ⟨rfl, hb⟩))
  all_goals go_ret
  all_goals refine ⟨ret_bool ?_, (by with_reducible (repeat (first | assumption | exact Below.refl _ _ | refine Below.drew ?_ | refine below_drewN ?_ _ | refine Below.alloc ?_ (by first | (simp; done) | omega | (simp; omega)) _ | refine Below.setCell ?_ (by first | (simp; done) | omega | (simp; omega)) _ | refine Below.trans ?_ (Below.mono (by assumption) (by first | (simp; done) | omega | (simp; omega))))))⟩
  all_goals (rw [Bool.eq_iff_iff]; simp [keyOk, isDeed] <;> omega)

theorem refKeyCheck_any (o d : Int) (w : World) : Calls Tryz.prog 161 #[.agg #[.int .i64 o, .int .i64 d]] w fun e w' => e = .returned (.bool (keyOk o d)) ∧ Below w.heap.size w w' := by
  go_enter Tryz.func161, Tryz.ntmps161
  go_wp2
  all_goals (go_ret; refine ⟨ret_bool ?_, (by with_reducible (repeat (first | exact Below.refl _ _ | assumption | refine Below.drew ?_ | refine below_drewN ?_ _ | refine Below.alloc ?_ (by first | (simp; done) | omega | (simp; omega)) _ | refine Below.setCell ?_ (by first | (simp; done) | omega | (simp; omega)) _)))⟩; rw [Bool.eq_iff_iff]; simp [keyOk, isDeed] <;> first | omega | grind)

theorem less_any (a b c d : Int) (w : World) : Calls Tryz.prog 189 #[.agg #[.int .i64 a, .int .i64 b], .agg #[.int .i64 c, .int .i64 d]] w fun e w' => e = .returned (.bool (keyLess a b c d)) ∧ Below w.heap.size w w' := by
  go_enter Tryz.func189, Tryz.ntmps189
  go_wp2
  all_goals (go_ret; refine ⟨ret_bool ?_, (by with_reducible (repeat (first | exact Below.refl _ _ | assumption | refine Below.drew ?_ | refine below_drewN ?_ _ | refine Below.alloc ?_ (by first | (simp; done) | omega | (simp; omega)) _ | refine Below.setCell ?_ (by first | (simp; done) | omega | (simp; omega)) _)))⟩; rw [Bool.eq_iff_iff]; simp [keyLess] <;> first | omega | grind)

theorem refLess_any (a b c d : Int) (w : World) : Calls Tryz.prog 177 #[.agg #[.int .i64 a, .int .i64 b], .agg #[.int .i64 c, .int .i64 d]] w fun e w' => e = .returned (.bool (keyLess a b c d)) ∧ Below w.heap.size w w' := by
  go_enter Tryz.func177, Tryz.ntmps177
  go_wp2
  all_goals (go_ret; refine ⟨ret_bool ?_, (by with_reducible (repeat (first | exact Below.refl _ _ | assumption | refine Below.drew ?_ | refine below_drewN ?_ _ | refine Below.alloc ?_ (by first | (simp; done) | omega | (simp; omega)) _ | refine Below.setCell ?_ (by first | (simp; done) | omega | (simp; omega)) _)))⟩; rw [Bool.eq_iff_iff]; simp [keyLess] <;> first | omega | grind)
end Go.Proofs.YtibabfedpdoofaaGreatDoor
namespace Go.Proofs.YtibabfedpdoofaaGreatDoor
open Go.RowKit Go.Own

end Go.Proofs.YtibabfedpdoofaaGreatDoor
namespace Go.Proofs.YtibabfedpdoofaaGreatDoor
open Go.RowKit Go.Own

end Go.Proofs.YtibabfedpdoofaaGreatDoor
namespace Go.Proofs.YtibabfedpdoofaaGreatDoor
open Go.RowKit Go.Own

end Go.Proofs.YtibabfedpdoofaaGreatDoor
namespace Go.Proofs.YtibabfedpdoofaaGreatDoor
open Go.RowKit Go.Own

end Go.Proofs.YtibabfedpdoofaaGreatDoor
namespace Go.Proofs.YtibabfedpdoofaaGreatDoor
open Go.RowKit Go.Own

end Go.Proofs.YtibabfedpdoofaaGreatDoor
namespace Go.Proofs.YtibabfedpdoofaaGreatDoor
open Go.RowKit Go.Own

theorem Laid.deep {w W x : World} {B : Nat} (hL : Laid w) (hpos : 2 < w.heap.size) (h : Below w.heap.size w W) (hB : w.heap.size ≤ B) : Laid (Go.Own.later W B x) :=
  hL.below (h.trans ((later_below W B x).mono hB)) hpos
end Go.Proofs.YtibabfedpdoofaaGreatDoor
namespace Go.Proofs.YtibabfedpdoofaaGreatDoor
open Go.RowKit Go.Own

structure RowS where
  o : Int
  d : Int
  code : Int
  amt : Int
  qty : Int
def RowS.cells (r : RowS) : Array Value := #[.int .i64 r.o, .int .i64 r.d, .int .i64 r.code, .int .i64 r.amt, .int .i64 r.qty]
def RowS.v (r : RowS) : Value := .agg #[.int .i64 r.o, .int .i64 r.d, .int .i64 r.code, .int .i64 r.amt, .int .i64 r.qty]
def mayRow (r : RowS) (p : Int) : Bool := keyOk r.o r.d && decide (partyOf r.d = p) && (decide (r.code = 1) || decide (r.code = 2)) &&
  (if r.code = 2 then decide (r.amt = 0) && decide (r.qty = 0)
   else if p = 0 then decide (r.qty = 0) && decide (0 ≤ r.amt) && decide (r.amt ≤ 1099511627776)
   else decide (r.amt = 0) && decide (0 ≤ r.qty) && decide (r.qty ≤ 999))

set_option maxHeartbeats 4000000 in
set_option maxRecDepth 100000 in
theorem rowMay_any (r : RowS) (p : Int) (w : World) (hL : Laid w) : Calls Tryz.prog 188 #[r.v, .int .i64 p] w fun e w' => e = .returned (.bool (mayRow r p)) ∧ Below w.heap.size w w' := by
  obtain ⟨o, d, code, amt, qty⟩ := r
  have HQ : mayRow ⟨o, d, code, amt, qty⟩ p = mayRow ⟨o, d, code, amt, qty⟩ p := rfl
  conv at HQ => rhs; unfold mayRow
  simp only at HQ
  have hK := fun w => keyCheck_any o d w
  have hP := fun w hL => party_any d w hL
  have HL := Lib.hid hL
  have hpos : 2 < w.heap.size := hL.1
  clear hL
  simp only [RowS.v]
  cases hk : keyOk o d
  · rw [hk] at HQ hK
    simp only [Bool.false_and] at HQ
    have HQ := Lib.hid HQ
    clear hk
    go_enter Tryz.func188, Tryz.ntmps188
    go_wp2_with (go_at_call 156; go_must ((with_reducible refine (hK _).mono ?_); rintro e w1 ⟨rfl, hb⟩; obtain ⟨hc, hf⟩ := bcell hb; have hz := hb.size; (try simp at hz); (try have hzT := Nat.lt_of_succ_le hz); have hzA : w.heap.size < w1.heap.size := (by omega); have hzA2 := Nat.le_of_lt hzA))
    go_ret
    exact ⟨by rw [HQ.out]; rfl, (by with_reducible (repeat (first | assumption | exact Below.refl _ _ | refine Below.drew ?_ | refine below_drewN ?_ _ | refine Below.alloc ?_ (by first | (simp; done) | omega | (simp; omega)) _ | refine Below.setCell ?_ (by first | (simp; done) | omega | (simp; omega)) _ | refine Below.trans ?_ (Below.mono (by assumption) (by first | (simp; done) | omega | (simp; omega))))))⟩
  · rw [hk] at HQ hK
    clear hk
    generalize partyOf d = q at *
    by_cases ht : q = p
    · subst ht
      simp only [decide_true, Bool.true_and, Bool.and_true] at HQ
      have HQ := Lib.hid HQ
      by_cases hc1 : code = 1
      · subst hc1
        by_cases h0 : q = 0
        · subst h0
          go_enter Tryz.func188, Tryz.ntmps188
          go_wp2_with (first | (go_at_call 156; go_must ((with_reducible refine (hK _).mono ?_); rintro e w1 ⟨rfl, hb⟩; obtain ⟨hc, hf⟩ := bcell hb; have hz := hb.size; (try simp at hz); (try have hzT := Nat.lt_of_succ_le hz); have hzA : w.heap.size < w1.heap.size := (by omega); have hzA2 := Nat.le_of_lt hzA)) | (go_at_call 203; go_must ((with_reducible refine (hP _ (by exact HL.out.below (by with_reducible (repeat (first | assumption | exact Below.refl _ _ | refine Below.drew ?_ | refine below_drewN ?_ _ | refine Below.alloc ?_ (by first | (simp; done) | omega | (simp; omega)) _ | refine Below.setCell ?_ (by first | (simp; done) | omega | (simp; omega)) _ | refine Below.trans ?_ (Below.mono (by assumption) (by first | (simp; done) | omega | (simp; omega)))))) hpos)).mono ?_); rintro e w1 ⟨rfl, hb⟩; obtain ⟨hc, hf⟩ := bcell hb; have hz := hb.size; (try simp at hz); (try have hzT := Nat.lt_of_succ_le hz); have hzA : w.heap.size < w1.heap.size := (by omega); have hzA2 := Nat.le_of_lt hzA)))
          all_goals go_ret
          all_goals refine ⟨ret_bool ?_, (by with_reducible (repeat (first | assumption | exact Below.refl _ _ | refine Below.drew ?_ | refine below_drewN ?_ _ | refine Below.alloc ?_ (by first | (simp; done) | omega | (simp; omega)) _ | refine Below.setCell ?_ (by first | (simp; done) | omega | (simp; omega)) _ | refine Below.trans ?_ (Below.mono (by assumption) (by first | (simp; done) | omega | (simp; omega))))))⟩
          all_goals (have hq := HQ.out; clear HQ HL hK hP hc hf; first | (simp_all; done) | (simp_all; omega) | (rw [hq, Bool.eq_iff_iff]; simp [*] <;> omega) | (rw [hq, Bool.eq_iff_iff]; simp; grind))
        · have h0b : (q == 0) = false := by simpa using h0
          go_enter Tryz.func188, Tryz.ntmps188
          go_wp2_with (first | (go_at_call 156; go_must ((with_reducible refine (hK _).mono ?_); rintro e w1 ⟨rfl, hb⟩; obtain ⟨hc, hf⟩ := bcell hb; have hz := hb.size; (try simp at hz); (try have hzT := Nat.lt_of_succ_le hz); have hzA : w.heap.size < w1.heap.size := (by omega); have hzA2 := Nat.le_of_lt hzA)) | (go_at_call 203; go_must ((with_reducible refine (hP _ (by exact HL.out.below (by with_reducible (repeat (first | assumption | exact Below.refl _ _ | refine Below.drew ?_ | refine below_drewN ?_ _ | refine Below.alloc ?_ (by first | (simp; done) | omega | (simp; omega)) _ | refine Below.setCell ?_ (by first | (simp; done) | omega | (simp; omega)) _ | refine Below.trans ?_ (Below.mono (by assumption) (by first | (simp; done) | omega | (simp; omega)))))) hpos)).mono ?_); rintro e w1 ⟨rfl, hb⟩; obtain ⟨hc, hf⟩ := bcell hb; have hz := hb.size; (try simp at hz); (try have hzT := Nat.lt_of_succ_le hz); have hzA : w.heap.size < w1.heap.size := (by omega); have hzA2 := Nat.le_of_lt hzA)))
          all_goals go_ret
          all_goals refine ⟨ret_bool ?_, (by with_reducible (repeat (first | assumption | exact Below.refl _ _ | refine Below.drew ?_ | refine below_drewN ?_ _ | refine Below.alloc ?_ (by first | (simp; done) | omega | (simp; omega)) _ | refine Below.setCell ?_ (by first | (simp; done) | omega | (simp; omega)) _ | refine Below.trans ?_ (Below.mono (by assumption) (by first | (simp; done) | omega | (simp; omega))))))⟩
          all_goals (have hq := HQ.out; clear HQ HL hK hP hc hf; first | (simp_all; done) | (simp_all; omega) | (rw [hq, Bool.eq_iff_iff]; simp [*] <;> omega) | (rw [hq, Bool.eq_iff_iff]; simp; grind))
      · have hc1b : (code == 1) = false := by simpa using hc1
        have hc1n : (code != 1) = true := by simpa using hc1
        by_cases hc2 : code = 2
        · subst hc2
          go_enter Tryz.func188, Tryz.ntmps188
          go_wp2_with (first | (go_at_call 156; go_must ((with_reducible refine (hK _).mono ?_); rintro e w1 ⟨rfl, hb⟩; obtain ⟨hc, hf⟩ := bcell hb; have hz := hb.size; (try simp at hz); (try have hzT := Nat.lt_of_succ_le hz); have hzA : w.heap.size < w1.heap.size := (by omega); have hzA2 := Nat.le_of_lt hzA)) | (go_at_call 203; go_must ((with_reducible refine (hP _ (by exact HL.out.below (by with_reducible (repeat (first | assumption | exact Below.refl _ _ | refine Below.drew ?_ | refine below_drewN ?_ _ | refine Below.alloc ?_ (by first | (simp; done) | omega | (simp; omega)) _ | refine Below.setCell ?_ (by first | (simp; done) | omega | (simp; omega)) _ | refine Below.trans ?_ (Below.mono (by assumption) (by first | (simp; done) | omega | (simp; omega)))))) hpos)).mono ?_); rintro e w1 ⟨rfl, hb⟩; obtain ⟨hc, hf⟩ := bcell hb; have hz := hb.size; (try simp at hz); (try have hzT := Nat.lt_of_succ_le hz); have hzA : w.heap.size < w1.heap.size := (by omega); have hzA2 := Nat.le_of_lt hzA)))
          all_goals go_ret
          all_goals refine ⟨ret_bool ?_, (by with_reducible (repeat (first | assumption | exact Below.refl _ _ | refine Below.drew ?_ | refine below_drewN ?_ _ | refine Below.alloc ?_ (by first | (simp; done) | omega | (simp; omega)) _ | refine Below.setCell ?_ (by first | (simp; done) | omega | (simp; omega)) _ | refine Below.trans ?_ (Below.mono (by assumption) (by first | (simp; done) | omega | (simp; omega))))))⟩
          all_goals (have hq := HQ.out; clear HQ HL hK hP hc hf; first | (simp_all; done) | (simp_all; omega) | (rw [hq, Bool.eq_iff_iff]; simp [*] <;> omega) | (rw [hq, Bool.eq_iff_iff]; simp; grind))
        · have hc2b : (code == 2) = false := by simpa using hc2
          have hc2n : (code != 2) = true := by simpa using hc2
          have HZ := Lib.hid (HQ.out.trans (show _ = false by simp [hc1, hc2]))
          clear HQ
          go_enter Tryz.func188, Tryz.ntmps188
          go_wp2_with (first | (go_at_call 156; go_must ((with_reducible refine (hK _).mono ?_); rintro e w1 ⟨rfl, hb⟩; obtain ⟨hc, hf⟩ := bcell hb; have hz := hb.size; (try simp at hz); (try have hzT := Nat.lt_of_succ_le hz); have hzA : w.heap.size < w1.heap.size := (by omega); have hzA2 := Nat.le_of_lt hzA)) | (go_at_call 203; go_must ((with_reducible refine (hP _ (by exact HL.out.below (by with_reducible (repeat (first | assumption | exact Below.refl _ _ | refine Below.drew ?_ | refine below_drewN ?_ _ | refine Below.alloc ?_ (by first | (simp; done) | omega | (simp; omega)) _ | refine Below.setCell ?_ (by first | (simp; done) | omega | (simp; omega)) _ | refine Below.trans ?_ (Below.mono (by assumption) (by first | (simp; done) | omega | (simp; omega)))))) hpos)).mono ?_); rintro e w1 ⟨rfl, hb⟩; obtain ⟨hc, hf⟩ := bcell hb; have hz := hb.size; (try simp at hz); (try have hzT := Nat.lt_of_succ_le hz); have hzA : w.heap.size < w1.heap.size := (by omega); have hzA2 := Nat.le_of_lt hzA)))
          go_ret
          exact ⟨by rw [HZ.out]; rfl, (by with_reducible (repeat (first | assumption | exact Below.refl _ _ | refine Below.drew ?_ | refine below_drewN ?_ _ | refine Below.alloc ?_ (by first | (simp; done) | omega | (simp; omega)) _ | refine Below.setCell ?_ (by first | (simp; done) | omega | (simp; omega)) _ | refine Below.trans ?_ (Below.mono (by assumption) (by first | (simp; done) | omega | (simp; omega))))))⟩
    · have htb : (q == p) = false := by simpa using ht
      have htn : (q != p) = true := by simpa using ht
      rw [decide_eq_false ht] at HQ
      simp only [Bool.and_false, Bool.false_and] at HQ
      have HQ := Lib.hid HQ
      clear ht
      go_enter Tryz.func188, Tryz.ntmps188
      go_wp2_with (first | (go_at_call 156; go_must ((with_reducible refine (hK _).mono ?_); rintro e w1 ⟨rfl, hb⟩; obtain ⟨hc, hf⟩ := bcell hb; have hz := hb.size; (try simp at hz); (try have hzT := Nat.lt_of_succ_le hz); have hzA : w.heap.size < w1.heap.size := (by omega); have hzA2 := Nat.le_of_lt hzA)) | (go_at_call 203; go_must ((with_reducible refine (hP _ (by exact HL.out.below (by with_reducible (repeat (first | assumption | exact Below.refl _ _ | refine Below.drew ?_ | refine below_drewN ?_ _ | refine Below.alloc ?_ (by first | (simp; done) | omega | (simp; omega)) _ | refine Below.setCell ?_ (by first | (simp; done) | omega | (simp; omega)) _ | refine Below.trans ?_ (Below.mono (by assumption) (by first | (simp; done) | omega | (simp; omega)))))) hpos)).mono ?_); rintro e w1 ⟨rfl, hb⟩; obtain ⟨hc, hf⟩ := bcell hb; have hz := hb.size; (try simp at hz); (try have hzT := Nat.lt_of_succ_le hz); have hzA : w.heap.size < w1.heap.size := (by omega); have hzA2 := Nat.le_of_lt hzA)))
      go_ret
      exact ⟨by rw [HQ.out]; rfl, (by with_reducible (repeat (first | assumption | exact Below.refl _ _ | refine Below.drew ?_ | refine below_drewN ?_ _ | refine Below.alloc ?_ (by first | (simp; done) | omega | (simp; omega)) _ | refine Below.setCell ?_ (by first | (simp; done) | omega | (simp; omega)) _ | refine Below.trans ?_ (Below.mono (by assumption) (by first | (simp; done) | omega | (simp; omega))))))⟩
end Go.Proofs.YtibabfedpdoofaaGreatDoor

/-
  The law IntakePlay returns true, by walking its text; conditions: the statements lie in memory, the table of parties as laid. (Printed by wip/mkintplay.py.)
-/
import Derived.Test.YtlfphfklcifgpaaDoorIntRel
namespace Go.Proofs.YtlfphfklcifgpaaDoor
open Go.RowKit Go.Own Go.Maps

set_option maxHeartbeats 16000000 in
set_option maxRecDepth 100000 in
theorem intakePlay_any {W : World} {v : Value} {ss : List StI} (o d : Int) (h : IsSts W v ss) (w1 : (Lit.int .i64 o).wf = true) (w2 : (Lit.int .i64 d).wf = true) (hL : Laid W) :
    Calls Tryd.prog 5 #[v, .agg #[.int .i64 o, .int .i64 d]] W fun e w' => e = .returned (.bool true) ∧ Below W.heap.size W w' := by
  have hLW := fun w (hb : Below W.heap.size W w) => hL.below hb hL.1
  have TK := fun w (hb : Below W.heap.size W w) => taken_any w (hLW w hb)
  have GR := fun w (hb : Below W.heap.size W w) => great21_any 30 (h.below hb)
  have HL := Lib.hid hLW
  have HH := Lib.hid h
  have HW := Lib.hid (And.intro w1 w2)
  obtain ⟨sp, sc, rfl, hmx⟩ := h.l.slice
  rw [List.length_map] at hmx HH GR ⊢
  have hmx' : (ss.length : Int) ≤ 9223372036854775807 := by unfold maxLen at hmx; omega
  have HO := Own.start W
  clear h hL hLW w1 w2
  cases hg : greatS ss 30
  rotate_left
  · rw [hg] at GR
    go_enter Tryd.func5, Tryd.ntmps5
    go_wp2_with (first | ((with_reducible apply wpList_boxAgg _ HO rfl); exact rfl; exact rfl; exact rfl; clear HO; intro b3 w HO; (simp only [Act.put, List.setIfInBounds_toArray, List.set_cons_succ, List.set_cons_zero])) | (first | go_big_skip | ((with_reducible apply wpList_loadAll HO); exact rfl; exact rfl; (repeat (with_reducible (first | exact At.head _ | apply At.tail))); infer_instance; exact rfl; exact rfl; (simp only [Act.put, List.setIfInBounds_toArray, List.set_cons_succ, List.set_cons_zero])) | ((with_reducible apply wpList_loadOne HO); exact rfl; exact rfl; (repeat (with_reducible (first | exact At.head _ | apply At.tail))); exact rfl; infer_instance; exact rfl; (simp only [Act.put, List.setIfInBounds_toArray, List.set_cons_succ, List.set_cons_zero]))) | (go_at_call 11; go_must ((with_reducible refine (GR _ HO.grown).mono ?_); rintro e w ⟨rfl, hb⟩; replace HO := HO.call hb; clear hb)) | (go_at_call 12; go_must ((with_reducible refine (TK _ HO.grown).mono ?_); rintro e w ⟨rfl, hb⟩; replace HO := HO.call hb; clear hb)))
    go_ret
    exact ⟨rfl, HO.grown⟩
  · rw [hg] at GR
    clear hg
    go_enter Tryd.func5, Tryd.ntmps5
    go_wp2_with (first | ((with_reducible apply wpList_boxAgg _ HO rfl); exact rfl; exact rfl; exact rfl; clear HO; intro b3 w HO; (simp only [Act.put, List.setIfInBounds_toArray, List.set_cons_succ, List.set_cons_zero])) | ((have _h : Own W _ (box _ _ :: box _ _ :: _) := HO); clear _h; ((with_reducible apply wpList_allocAgg _ HO rfl); exact rfl; infer_instance; exact rfl; clear HO; intro b6 w HO; (simp only [Act.put, List.setIfInBounds_toArray, List.set_cons_succ, List.set_cons_zero]))) | ((with_reducible apply wpList_allocAgg _ HO rfl); exact rfl; infer_instance; exact rfl; clear HO; intro b5 w HO; (simp only [Act.put, List.setIfInBounds_toArray, List.set_cons_succ, List.set_cons_zero])) | (first | go_big_skip | ((with_reducible apply wpList_loadAll HO); exact rfl; exact rfl; (repeat (with_reducible (first | exact At.head _ | apply At.tail))); infer_instance; exact rfl; exact rfl; (simp only [Act.put, List.setIfInBounds_toArray, List.set_cons_succ, List.set_cons_zero])) | ((with_reducible apply wpList_loadOne HO); exact rfl; exact rfl; (repeat (with_reducible (first | exact At.head _ | apply At.tail))); exact rfl; infer_instance; exact rfl; (simp only [Act.put, List.setIfInBounds_toArray, List.set_cons_succ, List.set_cons_zero]))) | (go_at_call 11; go_must ((with_reducible refine (GR _ HO.grown).mono ?_); rintro e w ⟨rfl, hb⟩; replace HO := HO.call hb; clear hb)))
    have HR : PlayRel W b3 b5 b6 o d w := ⟨zeroI, none, none, none, none, none, none, 0, 0, 0, 0, 0, 0, none, zeroI_ok, nilRows W, nilRows W, nilRows W, (Own.nilIsl (Own.nilIsl (Own.nilIsl (Own.nilMap HO.swap)))).perm (List.perm_append_comm (l₁ := [_, _, _, _]) (l₂ := [_, _, _]))⟩
    clear GR
    go_loopw [7] (fun i wr => ∃ j : Nat, j ≤ ss.length ∧ i = .int .i64 (j : Int) ∧ PlayRel W b3 b5 b6 o d wr) (fun i _ => ss.length - (intOf i).toNat)
    case atStart => exact ⟨0, by omega, rfl, HR⟩
    case round =>
      clear HO HR
      obtain ⟨j, hj, rfl, A, s0, s1, s2, t0, t1, t2, c0, c1, c2, d0, d1, d2, m, hA, g0, g1, g2, HO⟩ := hrel
      by_cases hjl : j < ss.length
      rotate_left
      · obtain rfl : j = ss.length := by omega
        have NA : ∀ w, Own W w [box b5 (.cells #[.int .i64 A.p0, .int .i64 A.q0, .slice s0 A.r0.length c0, .int .i64 A.p1, .int .i64 A.q1, .slice s1 A.r1.length c1, .int .i64 A.p2, .int .i64 A.q2, .slice s2 A.r2.length c2, .map m] 32), box b6 (.cells #[.int .i64 A.p0, .int .i64 A.q0, .slice t0 A.r0.length d0, .int .i64 A.p1, .int .i64 A.q1, .slice t1 A.r1.length d1, .int .i64 A.p2, .int .i64 A.q2, .slice t2 A.r2.length d2] 34), box b3 (.cells #[.int .i64 o, .int .i64 d] 43), isl 5 (.slice s0 A.r0.length c0) (A.r0.map rowC), isl 5 (.slice s1 A.r1.length c1) (A.r1.map rowC), isl 5 (.slice s2 A.r2.length c2) (A.r2.map rowC), mapM (.map m) (allF A)] → Calls Tryd.prog 16 #[.agg #[.int .i64 A.p0, .int .i64 A.q0, .slice s0 A.r0.length c0, .int .i64 A.p1, .int .i64 A.q1, .slice s1 A.r1.length c1, .int .i64 A.p2, .int .i64 A.q2, .slice s2 A.r2.length c2, .map m], .int .i64 (-1)] w fun e w' => e = .returned (.agg #[.int .i64 0, .int .i64 0, .slice none 0 0]) ∧ Below w.heap.size w w' := fun w h1 => newestNo_any A (-1) (ownIsl h1 (.tail _ _ _ (.tail _ _ _ (.tail _ _ _ (.head _))))) (ownIsl h1 (.tail _ _ _ (.tail _ _ _ (.tail _ _ _ (.tail _ _ _ (.head _)))))) (ownIsl h1 (.tail _ _ _ (.tail _ _ _ (.tail _ _ _ (.tail _ _ _ (.tail _ _ _ (.head _))))))) (mapForm m) (.inl (by decide))
        have NB : ∀ w, Own W w [box b5 (.cells #[.int .i64 A.p0, .int .i64 A.q0, .slice s0 A.r0.length c0, .int .i64 A.p1, .int .i64 A.q1, .slice s1 A.r1.length c1, .int .i64 A.p2, .int .i64 A.q2, .slice s2 A.r2.length c2, .map m] 32), box b6 (.cells #[.int .i64 A.p0, .int .i64 A.q0, .slice t0 A.r0.length d0, .int .i64 A.p1, .int .i64 A.q1, .slice t1 A.r1.length d1, .int .i64 A.p2, .int .i64 A.q2, .slice t2 A.r2.length d2] 34), box b3 (.cells #[.int .i64 o, .int .i64 d] 43), isl 5 (.slice s0 A.r0.length c0) (A.r0.map rowC), isl 5 (.slice s1 A.r1.length c1) (A.r1.map rowC), isl 5 (.slice s2 A.r2.length c2) (A.r2.map rowC), mapM (.map m) (allF A)] → Calls Tryd.prog 16 #[.agg #[.int .i64 A.p0, .int .i64 A.q0, .slice s0 A.r0.length c0, .int .i64 A.p1, .int .i64 A.q1, .slice s1 A.r1.length c1, .int .i64 A.p2, .int .i64 A.q2, .slice s2 A.r2.length c2, .map m], .int .i64 3] w fun e w' => e = .returned (.agg #[.int .i64 0, .int .i64 0, .slice none 0 0]) ∧ Below w.heap.size w w' := fun w h1 => newestNo_any A 3 (ownIsl h1 (.tail _ _ _ (.tail _ _ _ (.tail _ _ _ (.head _))))) (ownIsl h1 (.tail _ _ _ (.tail _ _ _ (.tail _ _ _ (.tail _ _ _ (.head _)))))) (ownIsl h1 (.tail _ _ _ (.tail _ _ _ (.tail _ _ _ (.tail _ _ _ (.tail _ _ _ (.head _))))))) (mapForm m) (.inr (by decide))
        have SZ := fun w => @refSame_any w (.slice none 0 0) (.slice none 0 0) [] [] 0 0 0 0 (nilRows w) (nilRows w)
        rw [sameStmt_iff.2 ⟨rfl, rfl, rfl⟩] at SZ
        go_wp2_with (first | (first | go_big_skip | ((with_reducible apply wpList_loadAll HO); exact rfl; exact rfl; (repeat (with_reducible (first | exact At.head _ | apply At.tail))); infer_instance; exact rfl; exact rfl; (simp only [Act.put, List.setIfInBounds_toArray, List.set_cons_succ, List.set_cons_zero])) | ((with_reducible apply wpList_loadOne HO); exact rfl; exact rfl; (repeat (with_reducible (first | exact At.head _ | apply At.tail))); exact rfl; infer_instance; exact rfl; (simp only [Act.put, List.setIfInBounds_toArray, List.set_cons_succ, List.set_cons_zero]))) | (go_at_call 16; first | ((with_reducible refine (NA _ HO).mono ?_); (rintro e w ⟨rfl, hb⟩; replace HO := HO.call hb; clear hb)) | ((with_reducible refine (NB _ HO).mono ?_); (rintro e w ⟨rfl, hb⟩; replace HO := HO.call hb; clear hb))) | (go_at_call 23; go_must ((with_reducible refine (SZ _).mono ?_); rintro e w ⟨rfl, hb⟩; replace HO := HO.call hb; clear hb)) | (go_at_call 12; go_must ((with_reducible refine (TK _ HO.grown).mono ?_); rintro e w ⟨rfl, hb⟩; replace HO := HO.call hb; clear hb)))
        go_ret
        exact ⟨rfl, HO.grown⟩
      have hjI : (j : Int) < (ss.length : Int) := by omega
      obtain ⟨a, rfl, hst⟩ := oldSt HH.out rfl hjl
      have hrow := HH.out.r ss[j] (List.getElem_mem hjl)
      generalize ss[j] = st at *
      obtain ⟨p, q, v, rs⟩ := st
      simp only [stC] at hrow hst
      obtain ⟨sv, cv, rfl, -⟩ := hrow.slice
      have HRW := Lib.hid hrow
      replace hst := Lib.hid hst
      clear hrow
      have AC0 : ∀ w, Own W w [box b5 (.cells #[.int .i64 A.p0, .int .i64 A.q0, .slice s0 A.r0.length c0, .int .i64 A.p1, .int .i64 A.q1, .slice s1 A.r1.length c1, .int .i64 A.p2, .int .i64 A.q2, .slice s2 A.r2.length c2, .map m] 32), box b6 (.cells #[.int .i64 A.p0, .int .i64 A.q0, .slice t0 A.r0.length d0, .int .i64 A.p1, .int .i64 A.q1, .slice t1 A.r1.length d1, .int .i64 A.p2, .int .i64 A.q2, .slice t2 A.r2.length d2] 34), box b3 (.cells #[.int .i64 o, .int .i64 d] 43), isl 5 (.slice s0 A.r0.length c0) (A.r0.map rowC), isl 5 (.slice s1 A.r1.length c1) (A.r1.map rowC), isl 5 (.slice s2 A.r2.length c2) (A.r2.map rowC), mapM (.map m) (allF A)] → Calls Tryd.prog 14 #[.agg #[.int .i64 A.p0, .int .i64 A.q0, .slice s0 A.r0.length c0, .int .i64 A.p1, .int .i64 A.q1, .slice s1 A.r1.length c1, .int .i64 A.p2, .int .i64 A.q2, .slice s2 A.r2.length c2, .map m], .agg #[.int .i64 p, .int .i64 q, .slice sv rs.length cv]] w (AccPost A p q rs (.slice s0 A.r0.length c0) (.slice s1 A.r1.length c1) (.slice s2 A.r2.length c2) w) := fun w h1 => accept_any A p q rs (ownIsl h1 (.tail _ _ _ (.tail _ _ _ (.tail _ _ _ (.head _))))) (ownIsl h1 (.tail _ _ _ (.tail _ _ _ (.tail _ _ _ (.tail _ _ _ (.head _)))))) (ownIsl h1 (.tail _ _ _ (.tail _ _ _ (.tail _ _ _ (.tail _ _ _ (.tail _ _ _ (.head _))))))) (HRW.out.below h1.grown HRW.out.lt) hA (mapForm m) (HL.out _ h1.grown)
      have RC0 : ∀ w, Below W.heap.size W w → Calls Tryd.prog 18 #[.agg #[.int .i64 A.p0, .int .i64 A.q0, .slice t0 A.r0.length d0, .int .i64 A.p1, .int .i64 A.q1, .slice t1 A.r1.length d1, .int .i64 A.p2, .int .i64 A.q2, .slice t2 A.r2.length d2], .agg #[.int .i64 p, .int .i64 q, .slice sv rs.length cv]] w (RefAccPost A p q rs (.slice t0 A.r0.length d0) (.slice t1 A.r1.length d1) (.slice t2 A.r2.length d2) (.slice sv rs.length cv) w) := fun w hb => refAccept_any A p q rs (g0.below hb g0.lt) (g1.below hb g1.lt) (g2.below hb g2.lt) (HRW.out.below hb HRW.out.lt)
      by_cases hacc : accE A p q rs = 0
      rotate_left
      · have AC : ∀ w, Own W w [box b5 (.cells #[.int .i64 A.p0, .int .i64 A.q0, .slice s0 A.r0.length c0, .int .i64 A.p1, .int .i64 A.q1, .slice s1 A.r1.length c1, .int .i64 A.p2, .int .i64 A.q2, .slice s2 A.r2.length c2, .map m] 32), box b6 (.cells #[.int .i64 A.p0, .int .i64 A.q0, .slice t0 A.r0.length d0, .int .i64 A.p1, .int .i64 A.q1, .slice t1 A.r1.length d1, .int .i64 A.p2, .int .i64 A.q2, .slice t2 A.r2.length d2] 34), box b3 (.cells #[.int .i64 o, .int .i64 d] 43), isl 5 (.slice s0 A.r0.length c0) (A.r0.map rowC), isl 5 (.slice s1 A.r1.length c1) (A.r1.map rowC), isl 5 (.slice s2 A.r2.length c2) (A.r2.map rowC), mapM (.map m) (allF A)] → Calls Tryd.prog 14 #[.agg #[.int .i64 A.p0, .int .i64 A.q0, .slice s0 A.r0.length c0, .int .i64 A.p1, .int .i64 A.q1, .slice s1 A.r1.length c1, .int .i64 A.p2, .int .i64 A.q2, .slice s2 A.r2.length c2, .map m], .agg #[.int .i64 p, .int .i64 q, .slice sv rs.length cv]] w fun e w' => e = .returned (.tuple #[.agg #[.int .i64 0, .int .i64 0, .slice none 0 0, .int .i64 0, .int .i64 0, .slice none 0 0, .int .i64 0, .int .i64 0, .slice none 0 0, .map none], .int .i64 (accE A p q rs)]) ∧ Below w.heap.size w w' := fun w h1 => (AC0 w h1).mono (fun e w' he => by
          unfold AccPost at he
          rw [if_neg hacc] at he
          exact he)
        have RC : ∀ w, Below W.heap.size W w → Calls Tryd.prog 18 #[.agg #[.int .i64 A.p0, .int .i64 A.q0, .slice t0 A.r0.length d0, .int .i64 A.p1, .int .i64 A.q1, .slice t1 A.r1.length d1, .int .i64 A.p2, .int .i64 A.q2, .slice t2 A.r2.length d2], .agg #[.int .i64 p, .int .i64 q, .slice sv rs.length cv]] w fun e w' => e = .returned (.tuple #[.agg #[.int .i64 0, .int .i64 0, .slice none 0 0, .int .i64 0, .int .i64 0, .slice none 0 0, .int .i64 0, .int .i64 0, .slice none 0 0], .int .i64 (accE A p q rs)]) ∧ Below w.heap.size w w' := fun w hb => (RC0 w hb).mono (fun e w' he => by
          unfold RefAccPost at he
          rw [if_neg hacc] at he
          exact ⟨he.2, he.1⟩)
        have hc1 : (accE A p q rs == 0) = false := by simpa using hacc
        clear AC0 RC0 hacc
        generalize accE A p q rs = ce at *
        go_upto_region 8 with fail
        go_cut [9] (fun e wx => e = .int .i64 ce ∧ Own W wx [box b5 (.cells #[.int .i64 A.p0, .int .i64 A.q0, .slice s0 A.r0.length c0, .int .i64 A.p1, .int .i64 A.q1, .slice s1 A.r1.length c1, .int .i64 A.p2, .int .i64 A.q2, .slice s2 A.r2.length c2, .map m] 32), box b6 (.cells #[.int .i64 A.p0, .int .i64 A.q0, .slice t0 A.r0.length d0, .int .i64 A.p1, .int .i64 A.q1, .slice t1 A.r1.length d1, .int .i64 A.p2, .int .i64 A.q2, .slice t2 A.r2.length d2] 34), box b3 (.cells #[.int .i64 o, .int .i64 d] 43), isl 5 (.slice s0 A.r0.length c0) (A.r0.map rowC), isl 5 (.slice s1 A.r1.length c1) (A.r1.map rowC), isl 5 (.slice s2 A.r2.length c2) (A.r2.map rowC), mapM (.map m) (allF A)])
        case first =>
          refine region_treeO [box b5 (.cells #[.int .i64 A.p0, .int .i64 A.q0, .slice s0 A.r0.length c0, .int .i64 A.p1, .int .i64 A.q1, .slice s1 A.r1.length c1, .int .i64 A.p2, .int .i64 A.q2, .slice s2 A.r2.length c2, .map m] 32)] [(0, true), (1, true), (2, true), (3, true), (4, true), (6, true), (7, true), (8, true), (11, true)] (.fork [(0, true), (1, true), (2, true), (3, true), (4, true)] 5 9 (.fin [(6, true), (7, true), (8, true), (9, false), (10, false), (11, true)]) (.fin [(5, false), (6, true), (7, true), (8, true), (10, false), (11, true)])) HO (by with_reducible (repeat (first | exact List.nil_sublist _ | apply List.Sublist.cons_cons | apply List.Sublist.cons))) (by kernel_rfl) (by kernel_rfl) ?_
          clear HO
          intro w HO
          refine wpS_fork ?_
          repeat (first | ((with_reducible apply wpSched_loadAll); exact rfl; exact rfl; exact rfl; (repeat (with_reducible (first | exact At.head _ | apply At.tail))); infer_instance; exact rfl; exact rfl; (simp only [Act.put, List.setIfInBounds_toArray, List.set_cons_succ, List.set_cons_zero])) | ((with_reducible apply wpSched_loadAt); exact rfl; exact rfl; exact rfl; exact (fun w' hw => hst.out w' (hw _ List.mem_cons_self)); infer_instance; exact rfl; exact rfl; (simp only [Act.put, List.setIfInBounds_toArray, List.set_cons_succ, List.set_cons_zero])) | ((with_reducible apply wpSched_pure); exact rfl; exact rfl; (intro w'; go_simp; try with_reducible rfl); (simp only [Act.put, List.setIfInBounds_toArray, List.set_cons_succ, List.set_cons_zero])))
          refine fork_end rfl rfl ?_ ?_
          · go_wp2_with ((go_at_call 14; go_must (((with_reducible refine (AC _ HO).mono ?_); (rintro e w ⟨rfl, hb⟩; replace HO := HO.call hb; clear hb)))))
            refine thenQ_keep (HO.heldO (by with_reducible (repeat (first | exact List.nil_sublist _ | apply List.Sublist.cons_cons | apply List.Sublist.cons)))) ?_
            refine wpS_fin ?_
            repeat ((with_reducible apply wpSched_pure); exact rfl; exact rfl; (intro w'; go_simp; try with_reducible rfl); (simp only [Act.put, List.setIfInBounds_toArray, List.set_cons_succ, List.set_cons_zero]))
            ((with_reducible apply wpSched_loud); exact rfl; (first | ((with_reducible apply wpList_boxAgg _ HO rfl); exact rfl; exact rfl; exact rfl; clear HO; intro b8 w HO; (simp only [Act.put, List.setIfInBounds_toArray, List.set_cons_succ, List.set_cons_zero])) | ((with_reducible apply wpList_allocAgg _ HO rfl); exact rfl; infer_instance; exact rfl; clear HO; intro b8 w HO; (simp only [Act.put, List.setIfInBounds_toArray, List.set_cons_succ, List.set_cons_zero])) | ((with_reducible apply wpList_boxOne _ HO rfl); exact rfl; (first | (simp [Act.eval]; rfl) | exact rfl); exact rfl; exact rfl; clear HO; intro b8 w HO; (simp only [Act.put, List.setIfInBounds_toArray, List.set_cons_succ, List.set_cons_zero])) | ((with_reducible apply wpList_alloc _ HO rfl); exact rfl; infer_instance; exact rfl; exact rfl; clear HO; intro b8 w HO; (simp only [Act.put, List.setIfInBounds_toArray, List.set_cons_succ, List.set_cons_zero]))))
            refine wpList_nil (thenQ_keep (HO.heldO (by with_reducible (repeat (first | exact List.nil_sublist _ | apply List.Sublist.cons_cons | apply List.Sublist.cons)))) ?_)
            ((with_reducible apply wpSched_loud); exact rfl; ((with_reducible apply wpList_storeAll HO); exact rfl; exact rfl; exact rfl; (repeat (with_reducible (first | exact At.head _ | apply At.tail))); infer_instance; exact rfl; exact rfl; exact rfl; exact rfl; clear HO; intro w HO; (simp only [Act.put])))
            refine wpList_nil (thenQ_keep (HO.heldO (by with_reducible (repeat (first | exact List.nil_sublist _ | apply List.Sublist.cons_cons | apply List.Sublist.cons)))) ?_)
            ((with_reducible apply wpSched_pure); exact rfl; exact rfl; (intro w'; go_simp; try with_reducible rfl); (simp only [Act.put, List.setIfInBounds_toArray, List.set_cons_succ, List.set_cons_zero]))
            refine wpSched_end ?_
            go_wp2_with fail
            go_meet
            exact ⟨rfl, HO.tail⟩
          · (first | ((with_reducible apply wpList_boxAgg _ HO rfl); exact rfl; exact rfl; exact rfl; clear HO; intro b8 w HO; (simp only [Act.put, List.setIfInBounds_toArray, List.set_cons_succ, List.set_cons_zero])) | ((with_reducible apply wpList_allocAgg _ HO rfl); exact rfl; infer_instance; exact rfl; clear HO; intro b8 w HO; (simp only [Act.put, List.setIfInBounds_toArray, List.set_cons_succ, List.set_cons_zero])) | ((with_reducible apply wpList_boxOne _ HO rfl); exact rfl; (first | (simp [Act.eval]; rfl) | exact rfl); exact rfl; exact rfl; clear HO; intro b8 w HO; (simp only [Act.put, List.setIfInBounds_toArray, List.set_cons_succ, List.set_cons_zero])) | ((with_reducible apply wpList_alloc _ HO rfl); exact rfl; infer_instance; exact rfl; exact rfl; clear HO; intro b8 w HO; (simp only [Act.put, List.setIfInBounds_toArray, List.set_cons_succ, List.set_cons_zero])))
            refine wpList_nil (thenQ_keep (HO.heldO (by with_reducible (repeat (first | exact List.nil_sublist _ | apply List.Sublist.cons_cons | apply List.Sublist.cons)))) ?_)
            refine wpS_fin ?_
            ((with_reducible apply wpSched_loud); exact rfl; go_wp2_with ((go_at_call 14; go_must (((with_reducible refine (AC _ HO.tail).mono ?_); (rintro e w ⟨rfl, hb⟩; replace HO := HO.call hb; clear hb))))))
            refine thenQ_keep (HO.heldO (by with_reducible (repeat (first | exact List.nil_sublist _ | apply List.Sublist.cons_cons | apply List.Sublist.cons)))) ?_
            repeat ((with_reducible apply wpSched_pure); exact rfl; exact rfl; (intro w'; go_simp; try with_reducible rfl); (simp only [Act.put, List.setIfInBounds_toArray, List.set_cons_succ, List.set_cons_zero]))
            ((with_reducible apply wpSched_loud); exact rfl; ((with_reducible apply wpList_storeAll HO); exact rfl; exact rfl; exact rfl; (repeat (with_reducible (first | exact At.head _ | apply At.tail))); infer_instance; exact rfl; exact rfl; exact rfl; exact rfl; clear HO; intro w HO; (simp only [Act.put])))
            refine wpList_nil (thenQ_keep (HO.heldO (by with_reducible (repeat (first | exact List.nil_sublist _ | apply List.Sublist.cons_cons | apply List.Sublist.cons)))) ?_)
            ((with_reducible apply wpSched_pure); exact rfl; exact rfl; (intro w'; go_simp; try with_reducible rfl); (simp only [Act.put, List.setIfInBounds_toArray, List.set_cons_succ, List.set_cons_zero]))
            refine wpSched_end ?_
            go_wp2_with fail
            go_meet
            exact ⟨rfl, HO.tail⟩
        clear HO
        obtain ⟨rfl, HO⟩ := hcut
        go_upto_region 9 with fail
        go_cut [11] (fun e wx => e = .int .i64 ce ∧ Own W wx [box b5 (.cells #[.int .i64 A.p0, .int .i64 A.q0, .slice s0 A.r0.length c0, .int .i64 A.p1, .int .i64 A.q1, .slice s1 A.r1.length c1, .int .i64 A.p2, .int .i64 A.q2, .slice s2 A.r2.length c2, .map m] 32), box b6 (.cells #[.int .i64 A.p0, .int .i64 A.q0, .slice t0 A.r0.length d0, .int .i64 A.p1, .int .i64 A.q1, .slice t1 A.r1.length d1, .int .i64 A.p2, .int .i64 A.q2, .slice t2 A.r2.length d2] 34), box b3 (.cells #[.int .i64 o, .int .i64 d] 43), isl 5 (.slice s0 A.r0.length c0) (A.r0.map rowC), isl 5 (.slice s1 A.r1.length c1) (A.r1.map rowC), isl 5 (.slice s2 A.r2.length c2) (A.r2.map rowC), mapM (.map m) (allF A)])
        case first =>
          refine region_treeO [box b6 (.cells #[.int .i64 A.p0, .int .i64 A.q0, .slice t0 A.r0.length d0, .int .i64 A.p1, .int .i64 A.q1, .slice t1 A.r1.length d1, .int .i64 A.p2, .int .i64 A.q2, .slice t2 A.r2.length d2] 34)] [(0, true), (1, true), (2, true), (3, true), (4, true), (6, true), (7, true), (8, true), (11, true)] (.fork [(0, true), (1, true), (2, true), (3, true), (4, true)] 5 9 (.fin [(6, true), (7, true), (8, true), (9, false), (10, false), (11, true)]) (.fin [(5, false), (6, true), (7, true), (8, true), (10, false), (11, true)])) HO (by with_reducible (repeat (first | exact List.nil_sublist _ | apply List.Sublist.cons_cons | apply List.Sublist.cons))) (by kernel_rfl) (by kernel_rfl) ?_
          clear HO
          intro w HO
          refine wpS_fork ?_
          repeat (first | ((with_reducible apply wpSched_loadAll); exact rfl; exact rfl; exact rfl; (repeat (with_reducible (first | exact At.head _ | apply At.tail))); infer_instance; exact rfl; exact rfl; (simp only [Act.put, List.setIfInBounds_toArray, List.set_cons_succ, List.set_cons_zero])) | ((with_reducible apply wpSched_loadAt); exact rfl; exact rfl; exact rfl; exact (fun w' hw => hst.out w' (hw _ List.mem_cons_self)); infer_instance; exact rfl; exact rfl; (simp only [Act.put, List.setIfInBounds_toArray, List.set_cons_succ, List.set_cons_zero])) | ((with_reducible apply wpSched_pure); exact rfl; exact rfl; (intro w'; go_simp; try with_reducible rfl); (simp only [Act.put, List.setIfInBounds_toArray, List.set_cons_succ, List.set_cons_zero])))
          refine fork_end rfl rfl ?_ ?_
          · go_wp2_with ((go_at_call 18; go_must (((with_reducible refine (RC _ HO.grown).mono ?_); (rintro e w ⟨rfl, hb⟩; replace HO := HO.call hb; clear hb)))))
            refine thenQ_keep (HO.heldO (by with_reducible (repeat (first | exact List.nil_sublist _ | apply List.Sublist.cons_cons | apply List.Sublist.cons)))) ?_
            refine wpS_fin ?_
            repeat ((with_reducible apply wpSched_pure); exact rfl; exact rfl; (intro w'; go_simp; try with_reducible rfl); (simp only [Act.put, List.setIfInBounds_toArray, List.set_cons_succ, List.set_cons_zero]))
            ((with_reducible apply wpSched_loud); exact rfl; (first | ((with_reducible apply wpList_boxAgg _ HO rfl); exact rfl; exact rfl; exact rfl; clear HO; intro b10 w HO; (simp only [Act.put, List.setIfInBounds_toArray, List.set_cons_succ, List.set_cons_zero])) | ((with_reducible apply wpList_allocAgg _ HO rfl); exact rfl; infer_instance; exact rfl; clear HO; intro b10 w HO; (simp only [Act.put, List.setIfInBounds_toArray, List.set_cons_succ, List.set_cons_zero])) | ((with_reducible apply wpList_boxOne _ HO rfl); exact rfl; (first | (simp [Act.eval]; rfl) | exact rfl); exact rfl; exact rfl; clear HO; intro b10 w HO; (simp only [Act.put, List.setIfInBounds_toArray, List.set_cons_succ, List.set_cons_zero])) | ((with_reducible apply wpList_alloc _ HO rfl); exact rfl; infer_instance; exact rfl; exact rfl; clear HO; intro b10 w HO; (simp only [Act.put, List.setIfInBounds_toArray, List.set_cons_succ, List.set_cons_zero]))))
            refine wpList_nil (thenQ_keep (HO.heldO (by with_reducible (repeat (first | exact List.nil_sublist _ | apply List.Sublist.cons_cons | apply List.Sublist.cons)))) ?_)
            ((with_reducible apply wpSched_loud); exact rfl; ((with_reducible apply wpList_storeAll HO); exact rfl; exact rfl; exact rfl; (repeat (with_reducible (first | exact At.head _ | apply At.tail))); infer_instance; exact rfl; exact rfl; exact rfl; exact rfl; clear HO; intro w HO; (simp only [Act.put])))
            refine wpList_nil (thenQ_keep (HO.heldO (by with_reducible (repeat (first | exact List.nil_sublist _ | apply List.Sublist.cons_cons | apply List.Sublist.cons)))) ?_)
            ((with_reducible apply wpSched_pure); exact rfl; exact rfl; (intro w'; go_simp; try with_reducible rfl); (simp only [Act.put, List.setIfInBounds_toArray, List.set_cons_succ, List.set_cons_zero]))
            refine wpSched_end ?_
            go_wp2_with fail
            go_meet
            exact ⟨rfl, HO.tail⟩
          · (first | ((with_reducible apply wpList_boxAgg _ HO rfl); exact rfl; exact rfl; exact rfl; clear HO; intro b10 w HO; (simp only [Act.put, List.setIfInBounds_toArray, List.set_cons_succ, List.set_cons_zero])) | ((with_reducible apply wpList_allocAgg _ HO rfl); exact rfl; infer_instance; exact rfl; clear HO; intro b10 w HO; (simp only [Act.put, List.setIfInBounds_toArray, List.set_cons_succ, List.set_cons_zero])) | ((with_reducible apply wpList_boxOne _ HO rfl); exact rfl; (first | (simp [Act.eval]; rfl) | exact rfl); exact rfl; exact rfl; clear HO; intro b10 w HO; (simp only [Act.put, List.setIfInBounds_toArray, List.set_cons_succ, List.set_cons_zero])) | ((with_reducible apply wpList_alloc _ HO rfl); exact rfl; infer_instance; exact rfl; exact rfl; clear HO; intro b10 w HO; (simp only [Act.put, List.setIfInBounds_toArray, List.set_cons_succ, List.set_cons_zero])))
            refine wpList_nil (thenQ_keep (HO.heldO (by with_reducible (repeat (first | exact List.nil_sublist _ | apply List.Sublist.cons_cons | apply List.Sublist.cons)))) ?_)
            refine wpS_fin ?_
            ((with_reducible apply wpSched_loud); exact rfl; go_wp2_with ((go_at_call 18; go_must (((with_reducible refine (RC _ HO.grown).mono ?_); (rintro e w ⟨rfl, hb⟩; replace HO := HO.call hb; clear hb))))))
            refine thenQ_keep (HO.heldO (by with_reducible (repeat (first | exact List.nil_sublist _ | apply List.Sublist.cons_cons | apply List.Sublist.cons)))) ?_
            repeat ((with_reducible apply wpSched_pure); exact rfl; exact rfl; (intro w'; go_simp; try with_reducible rfl); (simp only [Act.put, List.setIfInBounds_toArray, List.set_cons_succ, List.set_cons_zero]))
            ((with_reducible apply wpSched_loud); exact rfl; ((with_reducible apply wpList_storeAll HO); exact rfl; exact rfl; exact rfl; (repeat (with_reducible (first | exact At.head _ | apply At.tail))); infer_instance; exact rfl; exact rfl; exact rfl; exact rfl; clear HO; intro w HO; (simp only [Act.put])))
            refine wpList_nil (thenQ_keep (HO.heldO (by with_reducible (repeat (first | exact List.nil_sublist _ | apply List.Sublist.cons_cons | apply List.Sublist.cons)))) ?_)
            ((with_reducible apply wpSched_pure); exact rfl; exact rfl; (intro w'; go_simp; try with_reducible rfl); (simp only [Act.put, List.setIfInBounds_toArray, List.set_cons_succ, List.set_cons_zero]))
            refine wpSched_end ?_
            go_wp2_with fail
            go_meet
            exact ⟨rfl, HO.tail⟩
        clear HO
        obtain ⟨rfl, HO⟩ := hcut
        go_upto_region 14 with fail
        have HR : PlayRel W b3 b5 b6 o d _ := ⟨A, s0, s1, s2, t0, t1, t2, c0, c1, c2, d0, d1, d2, m, hA, g0, g1, g2, HO⟩
        clear AC RC hA g0 g1 g2 hst HRW
        clear HO
        obtain ⟨A, s0, s1, s2, t0, t1, t2, c0, c1, c2, d0, d1, d2, m, hA, g0, g1, g2, HO⟩ := HR
        have RW1 : ∀ w, Own W w [box b5 (.cells #[.int .i64 A.p0, .int .i64 A.q0, .slice s0 A.r0.length c0, .int .i64 A.p1, .int .i64 A.q1, .slice s1 A.r1.length c1, .int .i64 A.p2, .int .i64 A.q2, .slice s2 A.r2.length c2, .map m] 32), box b6 (.cells #[.int .i64 A.p0, .int .i64 A.q0, .slice t0 A.r0.length d0, .int .i64 A.p1, .int .i64 A.q1, .slice t1 A.r1.length d1, .int .i64 A.p2, .int .i64 A.q2, .slice t2 A.r2.length d2] 34), box b3 (.cells #[.int .i64 o, .int .i64 d] 43), isl 5 (.slice s0 A.r0.length c0) (A.r0.map rowC), isl 5 (.slice s1 A.r1.length c1) (A.r1.map rowC), isl 5 (.slice s2 A.r2.length c2) (A.r2.map rowC), mapM (.map m) (allF A)] → Calls Tryd.prog 19 #[.agg #[.int .i64 A.p0, .int .i64 A.q0, .slice s0 A.r0.length c0, .int .i64 A.p1, .int .i64 A.q1, .slice s1 A.r1.length c1, .int .i64 A.p2, .int .i64 A.q2, .slice s2 A.r2.length c2, .map m], .agg #[.int .i64 o, .int .i64 d]] w fun e w' => e = .returned (.tuple #[rowT (rowOf A o d), .bool (rowOf A o d).isSome]) ∧ Below w.heap.size w w' := fun w h1 => intRow_any A o d _ (ownIsl h1 (.tail _ _ _ (.tail _ _ _ (.tail _ _ _ (.head _))))) (ownIsl h1 (.tail _ _ _ (.tail _ _ _ (.tail _ _ _ (.tail _ _ _ (.head _)))))) (ownIsl h1 (.tail _ _ _ (.tail _ _ _ (.tail _ _ _ (.tail _ _ _ (.tail _ _ _ (.head _))))))) (h1.has (mapM (.map m) (allF A)) (by simp)) HW.out.1 HW.out.2 (allF_row hA HW.out.1 HW.out.2)
        have RR := fun w (hb : Below W.heap.size W w) => refRow_any A o d (g0.below hb g0.lt) (g1.below hb g1.lt) (g2.below hb g2.lt)
        have NT : ∀ o', (Lit.int .i64 o').wf = true → ∀ w, Own W w [box b5 (.cells #[.int .i64 A.p0, .int .i64 A.q0, .slice s0 A.r0.length c0, .int .i64 A.p1, .int .i64 A.q1, .slice s1 A.r1.length c1, .int .i64 A.p2, .int .i64 A.q2, .slice s2 A.r2.length c2, .map m] 32), box b6 (.cells #[.int .i64 A.p0, .int .i64 A.q0, .slice t0 A.r0.length d0, .int .i64 A.p1, .int .i64 A.q1, .slice t1 A.r1.length d1, .int .i64 A.p2, .int .i64 A.q2, .slice t2 A.r2.length d2] 34), box b3 (.cells #[.int .i64 o, .int .i64 d] 43), isl 5 (.slice s0 A.r0.length c0) (A.r0.map rowC), isl 5 (.slice s1 A.r1.length c1) (A.r1.map rowC), isl 5 (.slice s2 A.r2.length c2) (A.r2.map rowC), mapM (.map m) (allF A)] → Calls Tryd.prog 21 #[.agg #[.int .i64 A.p0, .int .i64 A.q0, .slice s0 A.r0.length c0, .int .i64 A.p1, .int .i64 A.q1, .slice s1 A.r1.length c1, .int .i64 A.p2, .int .i64 A.q2, .slice s2 A.r2.length c2, .map m], .int .i64 o'] w fun e w' => e = .returned (.int .i64 (netI A o')) ∧ Below w.heap.size w w' := fun o' hw w h1 => intNet_any A o' (ownIsl h1 (.tail _ _ _ (.tail _ _ _ (.tail _ _ _ (.head _))))) (ownIsl h1 (.tail _ _ _ (.tail _ _ _ (.tail _ _ _ (.tail _ _ _ (.head _)))))) (ownIsl h1 (.tail _ _ _ (.tail _ _ _ (.tail _ _ _ (.tail _ _ _ (.tail _ _ _ (.head _))))))) hA (h1.has (mapM (.map m) (allF A)) (by simp)) (fun o d h2 h3 => allF_row hA h2 h3) hw
        have RN := fun o' w (hb : Below W.heap.size W w) => refNet_any A o' (g0.below hb g0.lt) (g1.below hb g1.lt) (g2.below hb g2.lt) hA
        have AL : ∀ w, Own W w [box b5 (.cells #[.int .i64 A.p0, .int .i64 A.q0, .slice s0 A.r0.length c0, .int .i64 A.p1, .int .i64 A.q1, .slice s1 A.r1.length c1, .int .i64 A.p2, .int .i64 A.q2, .slice s2 A.r2.length c2, .map m] 32), box b6 (.cells #[.int .i64 A.p0, .int .i64 A.q0, .slice t0 A.r0.length d0, .int .i64 A.p1, .int .i64 A.q1, .slice t1 A.r1.length d1, .int .i64 A.p2, .int .i64 A.q2, .slice t2 A.r2.length d2] 34), box b3 (.cells #[.int .i64 o, .int .i64 d] 43), isl 5 (.slice s0 A.r0.length c0) (A.r0.map rowC), isl 5 (.slice s1 A.r1.length c1) (A.r1.map rowC), isl 5 (.slice s2 A.r2.length c2) (A.r2.map rowC), mapM (.map m) (allF A)] → Calls Tryd.prog 17 #[.agg #[.int .i64 A.p0, .int .i64 A.q0, .slice s0 A.r0.length c0, .int .i64 A.p1, .int .i64 A.q1, .slice s1 A.r1.length c1, .int .i64 A.p2, .int .i64 A.q2, .slice s2 A.r2.length c2, .map m], .agg #[.int .i64 A.p0, .int .i64 A.q0, .slice t0 A.r0.length d0, .int .i64 A.p1, .int .i64 A.q1, .slice t1 A.r1.length d1, .int .i64 A.p2, .int .i64 A.q2, .slice t2 A.r2.length d2]] w fun e w' => e = .returned (.bool true) ∧ Below w.heap.size w w' := fun w h1 => by
          have := alike_any A A (ownIsl h1 (.tail _ _ _ (.tail _ _ _ (.tail _ _ _ (.head _))))) (ownIsl h1 (.tail _ _ _ (.tail _ _ _ (.tail _ _ _ (.tail _ _ _ (.head _)))))) (ownIsl h1 (.tail _ _ _ (.tail _ _ _ (.tail _ _ _ (.tail _ _ _ (.tail _ _ _ (.head _))))))) (g0.below h1.grown g0.lt) (g1.below h1.grown g1.lt) (g2.below h1.grown g2.lt) hA (mapForm m)
          rwa [sameI_self] at this
        obtain ⟨x1, x2, x3, x4, x5, hx⟩ := rowT_form (rowOf A o d)
        rw [hx] at RW1 RR
        generalize (rowOf A o d).isSome = ok at *
        have NE := fun w => row_ne_self x1 x2 x3 x4 x5 w
        have NO := NT o HW.out.1
        have RO := RN o
        have HNT := Lib.hid NT
        have HRN := Lib.hid RN
        have HG := Lib.hid (And.intro hA (And.intro g0 (And.intro g1 g2)))
        clear hx NT RN hA g0 g1 g2
        generalize hnz : netI A o = nz at *
        clear hnz
        cases ok
        all_goals
          go_wp2_with (first | (first | go_big_skip | ((with_reducible apply wpList_loadAll HO); exact rfl; exact rfl; (repeat (with_reducible (first | exact At.head _ | apply At.tail))); infer_instance; exact rfl; exact rfl; (simp only [Act.put, List.setIfInBounds_toArray, List.set_cons_succ, List.set_cons_zero])) | ((with_reducible apply wpList_loadOne HO); exact rfl; exact rfl; (repeat (with_reducible (first | exact At.head _ | apply At.tail))); exact rfl; infer_instance; exact rfl; (simp only [Act.put, List.setIfInBounds_toArray, List.set_cons_succ, List.set_cons_zero]))) | ((with_reducible apply wpList_storeAll HO); exact rfl; exact rfl; exact rfl; (repeat (with_reducible (first | exact At.head _ | apply At.tail))); infer_instance; exact rfl; exact rfl; exact rfl; exact rfl; clear HO; intro w HO; (simp only [Act.put])) | (first | ((with_reducible apply wpList_boxAgg _ HO rfl); exact rfl; exact rfl; exact rfl; clear HO; intro b12 w HO; (simp only [Act.put, List.setIfInBounds_toArray, List.set_cons_succ, List.set_cons_zero])) | ((with_reducible apply wpList_allocAgg _ HO rfl); exact rfl; infer_instance; exact rfl; clear HO; intro b12 w HO; (simp only [Act.put, List.setIfInBounds_toArray, List.set_cons_succ, List.set_cons_zero]))) | (go_at_call 19; go_must (((with_reducible refine (RW1 _ HO).mono ?_); (rintro e w ⟨rfl, hb⟩; replace HO := HO.call hb; clear hb)))) | (go_at_call 20; go_must (((with_reducible refine (RR _ HO.grown).mono ?_); (rintro e w ⟨rfl, hb⟩; replace HO := HO.call hb; clear hb)))))
          refine region_own HO (by kernel_rfl) (by kernel_rfl) ?_
          clear HO
          intro F HF
          repeat (first | (first | go_big_quiet_skip | ((with_reducible apply wpQuiet_loadAll HF); exact rfl; exact rfl; (repeat (with_reducible (first | exact At.head _ | apply At.tail))); infer_instance; exact rfl; exact rfl; (simp only [Act.put, List.setIfInBounds_toArray, List.set_cons_succ, List.set_cons_zero])) | ((with_reducible apply wpQuiet_loadOne HF); exact rfl; exact rfl; (repeat (with_reducible (first | exact At.head _ | apply At.tail))); exact rfl; infer_instance; exact rfl; (simp only [Act.put, List.setIfInBounds_toArray, List.set_cons_succ, List.set_cons_zero])) | ((with_reducible apply wpQuiet_loadPart HF); exact rfl; exact rfl; (repeat (with_reducible (first | exact At.head _ | apply At.tail))); infer_instance; exact (Nat.le_of_ble_eq_true rfl); (simp only [List.drop_succ_cons, List.drop_zero, List.take_succ_cons, List.take_zero]; rfl); exact rfl; (simp only [Act.put, List.setIfInBounds_toArray, List.set_cons_succ, List.set_cons_zero]))) | go_big_quiet_step ((first | (go_at_call 17; (with_reducible exact calls_fam HF (AL _ (HF.own _).tail.tail))) | (go_at_call 21; (with_reducible exact calls_fam HF (NO _ (HF.own _).tail.tail))) | (go_at_call 22; (with_reducible exact calls_fam HF (RO _ (HF.own _).grown))))))
          refine wpQuiet_nil ?_
          intro x
          have HO := HF.own x
          clear HF
          generalize F x = w at *
          clear x F
          go_wp2_with fail
          go_loopw [16] (fun i wr => ∃ k : Nat, k ≤ 8 ∧ i = .int .i64 (k : Int) ∧ Own W wr [box b5 (.cells #[.int .i64 A.p0, .int .i64 A.q0, .slice s0 A.r0.length c0, .int .i64 A.p1, .int .i64 A.q1, .slice s1 A.r1.length c1, .int .i64 A.p2, .int .i64 A.q2, .slice s2 A.r2.length c2, .map m] 32), box b6 (.cells #[.int .i64 A.p0, .int .i64 A.q0, .slice t0 A.r0.length d0, .int .i64 A.p1, .int .i64 A.q1, .slice t1 A.r1.length d1, .int .i64 A.p2, .int .i64 A.q2, .slice t2 A.r2.length d2] 34), box b3 (.cells #[.int .i64 o, .int .i64 d] 43), isl 5 (.slice s0 A.r0.length c0) (A.r0.map rowC), isl 5 (.slice s1 A.r1.length c1) (A.r1.map rowC), isl 5 (.slice s2 A.r2.length c2) (A.r2.map rowC), mapM (.map m) (allF A)]) (fun i _ => 8 - (intOf i).toNat)
          case atStart => exact ⟨0, by omega, rfl, HO.tail.tail⟩
          case round =>
            clear HO
            obtain ⟨k, hk, rfl, HO⟩ := hrel
            by_cases hk8 : k < 8
            · have hkI : (k : Int) < 8 := by omega
              have N1 := HNT.out k (wf_small (by omega) (by omega))
              have N2 := HRN.out k
              generalize netI A k = nk at *
              go_wp2_with fail
              refine region_own HO (by kernel_rfl) (by kernel_rfl) ?_
              clear HO
              intro F HF
              repeat (first | (first | go_big_quiet_skip | ((with_reducible apply wpQuiet_loadAll HF); exact rfl; exact rfl; (repeat (with_reducible (first | exact At.head _ | apply At.tail))); infer_instance; exact rfl; exact rfl; (simp only [Act.put, List.setIfInBounds_toArray, List.set_cons_succ, List.set_cons_zero])) | ((with_reducible apply wpQuiet_loadOne HF); exact rfl; exact rfl; (repeat (with_reducible (first | exact At.head _ | apply At.tail))); exact rfl; infer_instance; exact rfl; (simp only [Act.put, List.setIfInBounds_toArray, List.set_cons_succ, List.set_cons_zero])) | ((with_reducible apply wpQuiet_loadPart HF); exact rfl; exact rfl; (repeat (with_reducible (first | exact At.head _ | apply At.tail))); infer_instance; exact (Nat.le_of_ble_eq_true rfl); (simp only [List.drop_succ_cons, List.drop_zero, List.take_succ_cons, List.take_zero]; rfl); exact rfl; (simp only [Act.put, List.setIfInBounds_toArray, List.set_cons_succ, List.set_cons_zero]))) | go_big_quiet_step ((first | (go_at_call 21; (with_reducible exact calls_fam HF (N1 _ (HF.own _)))) | (go_at_call 22; (with_reducible exact calls_fam HF (N2 _ (HF.own _).grown))))))
              refine wpQuiet_nil ?_
              intro x
              have HO := HF.own x
              clear HF
              generalize F x = w at *
              clear x F
              go_wp2_with fail
              go_roundw
              case rel => exact ⟨k + 1, by omega, by go_num, HO⟩
              case measure => simp [intOf] <;> omega
            · obtain rfl : k = 8 := by omega
              go_wp2_with fail
              go_roundw
              case rel => exact ⟨j + 1, by omega, by go_num, ⟨A, s0, s1, s2, t0, t1, t2, c0, c1, c2, d0, d1, d2, m, HG.out.1, HG.out.2.1, HG.out.2.2.1, HG.out.2.2.2, HO⟩⟩
              case measure => simp [intOf] <;> omega
      obtain ⟨hok, -⟩ := accE_ok hacc
      obtain ⟨_, _, hp0, hp2, _, _⟩ := okStmt_ok hok
      have hp : p = 0 ∨ p = 1 ∨ p = 2 := by omega
      rcases hp with rfl | rfl | rfl
      · have AC : ∀ w, Own W w [box b5 (.cells #[.int .i64 A.p0, .int .i64 A.q0, .slice s0 A.r0.length c0, .int .i64 A.p1, .int .i64 A.q1, .slice s1 A.r1.length c1, .int .i64 A.p2, .int .i64 A.q2, .slice s2 A.r2.length c2, .map m] 32), box b6 (.cells #[.int .i64 A.p0, .int .i64 A.q0, .slice t0 A.r0.length d0, .int .i64 A.p1, .int .i64 A.q1, .slice t1 A.r1.length d1, .int .i64 A.p2, .int .i64 A.q2, .slice t2 A.r2.length d2] 34), box b3 (.cells #[.int .i64 o, .int .i64 d] 43), isl 5 (.slice s0 A.r0.length c0) (A.r0.map rowC), isl 5 (.slice s1 A.r1.length c1) (A.r1.map rowC), isl 5 (.slice s2 A.r2.length c2) (A.r2.map rowC), mapM (.map m) (allF A)] → Calls Tryd.prog 14 #[.agg #[.int .i64 A.p0, .int .i64 A.q0, .slice s0 A.r0.length c0, .int .i64 A.p1, .int .i64 A.q1, .slice s1 A.r1.length c1, .int .i64 A.p2, .int .i64 A.q2, .slice s2 A.r2.length c2, .map m], .agg #[.int .i64 0, .int .i64 q, .slice sv rs.length cv]] w fun e w' => ∃ bm nm su cu, e = .returned (.tuple #[.agg #[.int .i64 0, .int .i64 q, .slice su rs.length cu, .int .i64 A.p1, .int .i64 A.q1, .slice s1 A.r1.length c1, .int .i64 A.p2, .int .i64 A.q2, .slice s2 A.r2.length c2, .map (some bm)], .int .i64 0]) ∧ Own w w' [mapE Tryd.prog 43 bm nm (allF (A.put 0 q rs)), row 45 5 (.slice su rs.length cu) (rs.map rowC)] := fun w h1 => (AC0 w h1).mono (fun e w' he => by
          unfold AccPost at he
          rw [if_pos hacc] at he
          obtain ⟨bm, nm, u, hO, ⟨su, cu, rfl⟩, rfl⟩ := he
          exact ⟨bm, nm, su, cu, rfl, hO⟩)
        have RC : ∀ w, Below W.heap.size W w → Calls Tryd.prog 18 #[.agg #[.int .i64 A.p0, .int .i64 A.q0, .slice t0 A.r0.length d0, .int .i64 A.p1, .int .i64 A.q1, .slice t1 A.r1.length d1, .int .i64 A.p2, .int .i64 A.q2, .slice t2 A.r2.length d2], .agg #[.int .i64 0, .int .i64 q, .slice sv rs.length cv]] w fun e w' => e = .returned (.tuple #[.agg #[.int .i64 0, .int .i64 q, .slice sv rs.length cv, .int .i64 A.p1, .int .i64 A.q1, .slice t1 A.r1.length d1, .int .i64 A.p2, .int .i64 A.q2, .slice t2 A.r2.length d2], .int .i64 0]) ∧ Below w.heap.size w w' := fun w hb => (RC0 w hb).mono (fun e w' he => by
          unfold RefAccPost at he
          rw [if_pos hacc] at he
          exact ⟨he.2, he.1⟩)
        clear AC0 RC0 hacc
        go_upto_region 8 with fail
        go_cut [8, 9] (fun x e wx => ∃ (b8 bm nm : Nat) (su : Option Addr) (cu : Nat), x = .pointer (some ⟨b8, 0, none⟩) ∧ e = .int .i64 0 ∧ Own W wx (box b8 (.cells #[.int .i64 0, .int .i64 q, .slice su rs.length cu, .int .i64 A.p1, .int .i64 A.q1, .slice s1 A.r1.length c1, .int .i64 A.p2, .int .i64 A.q2, .slice s2 A.r2.length c2, .map (some bm)] 32) :: mapE Tryd.prog 43 bm nm (allF (A.put 0 q rs)) :: row 45 5 (.slice su rs.length cu) (rs.map rowC) :: [box b5 (.cells #[.int .i64 A.p0, .int .i64 A.q0, .slice s0 A.r0.length c0, .int .i64 A.p1, .int .i64 A.q1, .slice s1 A.r1.length c1, .int .i64 A.p2, .int .i64 A.q2, .slice s2 A.r2.length c2, .map m] 32), box b6 (.cells #[.int .i64 A.p0, .int .i64 A.q0, .slice t0 A.r0.length d0, .int .i64 A.p1, .int .i64 A.q1, .slice t1 A.r1.length d1, .int .i64 A.p2, .int .i64 A.q2, .slice t2 A.r2.length d2] 34), box b3 (.cells #[.int .i64 o, .int .i64 d] 43), isl 5 (.slice s0 A.r0.length c0) (A.r0.map rowC), isl 5 (.slice s1 A.r1.length c1) (A.r1.map rowC), isl 5 (.slice s2 A.r2.length c2) (A.r2.map rowC), mapM (.map m) (allF A)]))
        case first =>
          refine region_treeO [box b5 (.cells #[.int .i64 A.p0, .int .i64 A.q0, .slice s0 A.r0.length c0, .int .i64 A.p1, .int .i64 A.q1, .slice s1 A.r1.length c1, .int .i64 A.p2, .int .i64 A.q2, .slice s2 A.r2.length c2, .map m] 32)] [(0, true), (1, true), (2, true), (3, true), (4, true), (6, true), (7, true), (8, true), (11, true)] (.fork [(0, true), (1, true), (2, true), (3, true), (4, true)] 5 9 (.fin [(6, true), (7, true), (8, true), (9, false), (10, false), (11, true)]) (.fin [(5, false), (6, true), (7, true), (8, true), (10, false), (11, true)])) HO (by with_reducible (repeat (first | exact List.nil_sublist _ | apply List.Sublist.cons_cons | apply List.Sublist.cons))) (by kernel_rfl) (by kernel_rfl) ?_
          clear HO
          intro w HO
          refine wpS_fork ?_
          repeat (first | ((with_reducible apply wpSched_loadAll); exact rfl; exact rfl; exact rfl; (repeat (with_reducible (first | exact At.head _ | apply At.tail))); infer_instance; exact rfl; exact rfl; (simp only [Act.put, List.setIfInBounds_toArray, List.set_cons_succ, List.set_cons_zero])) | ((with_reducible apply wpSched_loadAt); exact rfl; exact rfl; exact rfl; exact (fun w' hw => hst.out w' (hw _ List.mem_cons_self)); infer_instance; exact rfl; exact rfl; (simp only [Act.put, List.setIfInBounds_toArray, List.set_cons_succ, List.set_cons_zero])) | ((with_reducible apply wpSched_pure); exact rfl; exact rfl; (intro w'; go_simp; try with_reducible rfl); (simp only [Act.put, List.setIfInBounds_toArray, List.set_cons_succ, List.set_cons_zero])))
          refine fork_end rfl rfl ?_ ?_
          · go_wp2_with ((go_at_call 14; go_must ((with_reducible refine (AC _ HO).mono ?_); rintro e w ⟨bm, nm, su, cu, rfl, HO1⟩; replace HO := HO.lift HO1; clear HO1; simp only [List.cons_append, List.nil_append] at HO)))
            refine thenQ_keep (HO.heldO (by with_reducible (repeat (first | exact List.nil_sublist _ | apply List.Sublist.cons_cons | apply List.Sublist.cons)))) ?_
            refine wpS_fin ?_
            repeat ((with_reducible apply wpSched_pure); exact rfl; exact rfl; (intro w'; go_simp; try with_reducible rfl); (simp only [Act.put, List.setIfInBounds_toArray, List.set_cons_succ, List.set_cons_zero]))
            ((with_reducible apply wpSched_loud); exact rfl; (first | ((with_reducible apply wpList_boxAgg _ HO rfl); exact rfl; exact rfl; exact rfl; clear HO; intro b8 w HO; (simp only [Act.put, List.setIfInBounds_toArray, List.set_cons_succ, List.set_cons_zero])) | ((with_reducible apply wpList_allocAgg _ HO rfl); exact rfl; infer_instance; exact rfl; clear HO; intro b8 w HO; (simp only [Act.put, List.setIfInBounds_toArray, List.set_cons_succ, List.set_cons_zero])) | ((with_reducible apply wpList_boxOne _ HO rfl); exact rfl; (first | (simp [Act.eval]; rfl) | exact rfl); exact rfl; exact rfl; clear HO; intro b8 w HO; (simp only [Act.put, List.setIfInBounds_toArray, List.set_cons_succ, List.set_cons_zero])) | ((with_reducible apply wpList_alloc _ HO rfl); exact rfl; infer_instance; exact rfl; exact rfl; clear HO; intro b8 w HO; (simp only [Act.put, List.setIfInBounds_toArray, List.set_cons_succ, List.set_cons_zero]))))
            refine wpList_nil (thenQ_keep (HO.heldO (by with_reducible (repeat (first | exact List.nil_sublist _ | apply List.Sublist.cons_cons | apply List.Sublist.cons)))) ?_)
            ((with_reducible apply wpSched_loud); exact rfl; ((with_reducible apply wpList_storeAll HO); exact rfl; exact rfl; exact rfl; (repeat (with_reducible (first | exact At.head _ | apply At.tail))); infer_instance; exact rfl; exact rfl; exact rfl; exact rfl; clear HO; intro w HO; (simp only [Act.put])))
            refine wpList_nil (thenQ_keep (HO.heldO (by with_reducible (repeat (first | exact List.nil_sublist _ | apply List.Sublist.cons_cons | apply List.Sublist.cons)))) ?_)
            ((with_reducible apply wpSched_pure); exact rfl; exact rfl; (intro w'; go_simp; try with_reducible rfl); (simp only [Act.put, List.setIfInBounds_toArray, List.set_cons_succ, List.set_cons_zero]))
            refine wpSched_end ?_
            go_wp2_with fail
            go_meet
            exact ⟨b8, bm, nm, su, cu, rfl, rfl, HO⟩
          · (first | ((with_reducible apply wpList_boxAgg _ HO rfl); exact rfl; exact rfl; exact rfl; clear HO; intro b8 w HO; (simp only [Act.put, List.setIfInBounds_toArray, List.set_cons_succ, List.set_cons_zero])) | ((with_reducible apply wpList_allocAgg _ HO rfl); exact rfl; infer_instance; exact rfl; clear HO; intro b8 w HO; (simp only [Act.put, List.setIfInBounds_toArray, List.set_cons_succ, List.set_cons_zero])) | ((with_reducible apply wpList_boxOne _ HO rfl); exact rfl; (first | (simp [Act.eval]; rfl) | exact rfl); exact rfl; exact rfl; clear HO; intro b8 w HO; (simp only [Act.put, List.setIfInBounds_toArray, List.set_cons_succ, List.set_cons_zero])) | ((with_reducible apply wpList_alloc _ HO rfl); exact rfl; infer_instance; exact rfl; exact rfl; clear HO; intro b8 w HO; (simp only [Act.put, List.setIfInBounds_toArray, List.set_cons_succ, List.set_cons_zero])))
            refine wpList_nil (thenQ_keep (HO.heldO (by with_reducible (repeat (first | exact List.nil_sublist _ | apply List.Sublist.cons_cons | apply List.Sublist.cons)))) ?_)
            refine wpS_fin ?_
            ((with_reducible apply wpSched_loud); exact rfl; go_wp2_with ((go_at_call 14; go_must ((with_reducible refine (AC _ HO.tail).mono ?_); rintro e w ⟨bm, nm, su, cu, rfl, HO1⟩; replace HO := HO.lift HO1; clear HO1; simp only [List.cons_append, List.nil_append] at HO))))
            refine thenQ_keep (HO.heldO (by with_reducible (repeat (first | exact List.nil_sublist _ | apply List.Sublist.cons_cons | apply List.Sublist.cons)))) ?_
            repeat ((with_reducible apply wpSched_pure); exact rfl; exact rfl; (intro w'; go_simp; try with_reducible rfl); (simp only [Act.put, List.setIfInBounds_toArray, List.set_cons_succ, List.set_cons_zero]))
            ((with_reducible apply wpSched_loud); exact rfl; ((with_reducible apply wpList_storeAll HO); exact rfl; exact rfl; exact rfl; (repeat (with_reducible (first | exact At.head _ | apply At.tail))); infer_instance; exact rfl; exact rfl; exact rfl; exact rfl; clear HO; intro w HO; (simp only [Act.put])))
            refine wpList_nil (thenQ_keep (HO.heldO (by with_reducible (repeat (first | exact List.nil_sublist _ | apply List.Sublist.cons_cons | apply List.Sublist.cons)))) ?_)
            ((with_reducible apply wpSched_pure); exact rfl; exact rfl; (intro w'; go_simp; try with_reducible rfl); (simp only [Act.put, List.setIfInBounds_toArray, List.set_cons_succ, List.set_cons_zero]))
            refine wpSched_end ?_
            go_wp2_with fail
            go_meet
            exact ⟨b8, bm, nm, su, cu, rfl, rfl, HO.front3⟩
        clear HO
        obtain ⟨b8, bm, nm, su, cu, rfl, rfl, HO⟩ := hcut
        go_upto_region 9 with fail
        go_cut [10, 11] (fun x e wx => ∃ b10 : Nat, x = .pointer (some ⟨b10, 0, none⟩) ∧ e = .int .i64 0 ∧ Own W wx (box b10 (.cells #[.int .i64 0, .int .i64 q, .slice sv rs.length cv, .int .i64 A.p1, .int .i64 A.q1, .slice t1 A.r1.length d1, .int .i64 A.p2, .int .i64 A.q2, .slice t2 A.r2.length d2] 34) :: box b8 (.cells #[.int .i64 0, .int .i64 q, .slice su rs.length cu, .int .i64 A.p1, .int .i64 A.q1, .slice s1 A.r1.length c1, .int .i64 A.p2, .int .i64 A.q2, .slice s2 A.r2.length c2, .map (some bm)] 32) :: mapE Tryd.prog 43 bm nm (allF (A.put 0 q rs)) :: row 45 5 (.slice su rs.length cu) (rs.map rowC) :: [box b5 (.cells #[.int .i64 A.p0, .int .i64 A.q0, .slice s0 A.r0.length c0, .int .i64 A.p1, .int .i64 A.q1, .slice s1 A.r1.length c1, .int .i64 A.p2, .int .i64 A.q2, .slice s2 A.r2.length c2, .map m] 32), box b6 (.cells #[.int .i64 A.p0, .int .i64 A.q0, .slice t0 A.r0.length d0, .int .i64 A.p1, .int .i64 A.q1, .slice t1 A.r1.length d1, .int .i64 A.p2, .int .i64 A.q2, .slice t2 A.r2.length d2] 34), box b3 (.cells #[.int .i64 o, .int .i64 d] 43), isl 5 (.slice s0 A.r0.length c0) (A.r0.map rowC), isl 5 (.slice s1 A.r1.length c1) (A.r1.map rowC), isl 5 (.slice s2 A.r2.length c2) (A.r2.map rowC), mapM (.map m) (allF A)]))
        case first =>
          refine region_treeO [box b6 (.cells #[.int .i64 A.p0, .int .i64 A.q0, .slice t0 A.r0.length d0, .int .i64 A.p1, .int .i64 A.q1, .slice t1 A.r1.length d1, .int .i64 A.p2, .int .i64 A.q2, .slice t2 A.r2.length d2] 34)] [(0, true), (1, true), (2, true), (3, true), (4, true), (6, true), (7, true), (8, true), (11, true)] (.fork [(0, true), (1, true), (2, true), (3, true), (4, true)] 5 9 (.fin [(6, true), (7, true), (8, true), (9, false), (10, false), (11, true)]) (.fin [(5, false), (6, true), (7, true), (8, true), (10, false), (11, true)])) HO (by with_reducible (repeat (first | exact List.nil_sublist _ | apply List.Sublist.cons_cons | apply List.Sublist.cons))) (by kernel_rfl) (by kernel_rfl) ?_
          clear HO
          intro w HO
          refine wpS_fork ?_
          repeat (first | ((with_reducible apply wpSched_loadAll); exact rfl; exact rfl; exact rfl; (repeat (with_reducible (first | exact At.head _ | apply At.tail))); infer_instance; exact rfl; exact rfl; (simp only [Act.put, List.setIfInBounds_toArray, List.set_cons_succ, List.set_cons_zero])) | ((with_reducible apply wpSched_loadAt); exact rfl; exact rfl; exact rfl; exact (fun w' hw => hst.out w' (hw _ List.mem_cons_self)); infer_instance; exact rfl; exact rfl; (simp only [Act.put, List.setIfInBounds_toArray, List.set_cons_succ, List.set_cons_zero])) | ((with_reducible apply wpSched_pure); exact rfl; exact rfl; (intro w'; go_simp; try with_reducible rfl); (simp only [Act.put, List.setIfInBounds_toArray, List.set_cons_succ, List.set_cons_zero])))
          refine fork_end rfl rfl ?_ ?_
          · go_wp2_with ((go_at_call 18; go_must (((with_reducible refine (RC _ HO.grown).mono ?_); (rintro e w ⟨rfl, hb⟩; replace HO := HO.call hb; clear hb)))))
            refine thenQ_keep (HO.heldO (by with_reducible (repeat (first | exact List.nil_sublist _ | apply List.Sublist.cons_cons | apply List.Sublist.cons)))) ?_
            refine wpS_fin ?_
            repeat ((with_reducible apply wpSched_pure); exact rfl; exact rfl; (intro w'; go_simp; try with_reducible rfl); (simp only [Act.put, List.setIfInBounds_toArray, List.set_cons_succ, List.set_cons_zero]))
            ((with_reducible apply wpSched_loud); exact rfl; (first | ((with_reducible apply wpList_boxAgg _ HO rfl); exact rfl; exact rfl; exact rfl; clear HO; intro b10 w HO; (simp only [Act.put, List.setIfInBounds_toArray, List.set_cons_succ, List.set_cons_zero])) | ((with_reducible apply wpList_allocAgg _ HO rfl); exact rfl; infer_instance; exact rfl; clear HO; intro b10 w HO; (simp only [Act.put, List.setIfInBounds_toArray, List.set_cons_succ, List.set_cons_zero])) | ((with_reducible apply wpList_boxOne _ HO rfl); exact rfl; (first | (simp [Act.eval]; rfl) | exact rfl); exact rfl; exact rfl; clear HO; intro b10 w HO; (simp only [Act.put, List.setIfInBounds_toArray, List.set_cons_succ, List.set_cons_zero])) | ((with_reducible apply wpList_alloc _ HO rfl); exact rfl; infer_instance; exact rfl; exact rfl; clear HO; intro b10 w HO; (simp only [Act.put, List.setIfInBounds_toArray, List.set_cons_succ, List.set_cons_zero]))))
            refine wpList_nil (thenQ_keep (HO.heldO (by with_reducible (repeat (first | exact List.nil_sublist _ | apply List.Sublist.cons_cons | apply List.Sublist.cons)))) ?_)
            ((with_reducible apply wpSched_loud); exact rfl; ((with_reducible apply wpList_storeAll HO); exact rfl; exact rfl; exact rfl; (repeat (with_reducible (first | exact At.head _ | apply At.tail))); infer_instance; exact rfl; exact rfl; exact rfl; exact rfl; clear HO; intro w HO; (simp only [Act.put])))
            refine wpList_nil (thenQ_keep (HO.heldO (by with_reducible (repeat (first | exact List.nil_sublist _ | apply List.Sublist.cons_cons | apply List.Sublist.cons)))) ?_)
            ((with_reducible apply wpSched_pure); exact rfl; exact rfl; (intro w'; go_simp; try with_reducible rfl); (simp only [Act.put, List.setIfInBounds_toArray, List.set_cons_succ, List.set_cons_zero]))
            refine wpSched_end ?_
            go_wp2_with fail
            go_meet
            exact ⟨b10, rfl, rfl, HO⟩
          · (first | ((with_reducible apply wpList_boxAgg _ HO rfl); exact rfl; exact rfl; exact rfl; clear HO; intro b10 w HO; (simp only [Act.put, List.setIfInBounds_toArray, List.set_cons_succ, List.set_cons_zero])) | ((with_reducible apply wpList_allocAgg _ HO rfl); exact rfl; infer_instance; exact rfl; clear HO; intro b10 w HO; (simp only [Act.put, List.setIfInBounds_toArray, List.set_cons_succ, List.set_cons_zero])) | ((with_reducible apply wpList_boxOne _ HO rfl); exact rfl; (first | (simp [Act.eval]; rfl) | exact rfl); exact rfl; exact rfl; clear HO; intro b10 w HO; (simp only [Act.put, List.setIfInBounds_toArray, List.set_cons_succ, List.set_cons_zero])) | ((with_reducible apply wpList_alloc _ HO rfl); exact rfl; infer_instance; exact rfl; exact rfl; clear HO; intro b10 w HO; (simp only [Act.put, List.setIfInBounds_toArray, List.set_cons_succ, List.set_cons_zero])))
            refine wpList_nil (thenQ_keep (HO.heldO (by with_reducible (repeat (first | exact List.nil_sublist _ | apply List.Sublist.cons_cons | apply List.Sublist.cons)))) ?_)
            refine wpS_fin ?_
            ((with_reducible apply wpSched_loud); exact rfl; go_wp2_with ((go_at_call 18; go_must (((with_reducible refine (RC _ HO.grown).mono ?_); (rintro e w ⟨rfl, hb⟩; replace HO := HO.call hb; clear hb))))))
            refine thenQ_keep (HO.heldO (by with_reducible (repeat (first | exact List.nil_sublist _ | apply List.Sublist.cons_cons | apply List.Sublist.cons)))) ?_
            repeat ((with_reducible apply wpSched_pure); exact rfl; exact rfl; (intro w'; go_simp; try with_reducible rfl); (simp only [Act.put, List.setIfInBounds_toArray, List.set_cons_succ, List.set_cons_zero]))
            ((with_reducible apply wpSched_loud); exact rfl; ((with_reducible apply wpList_storeAll HO); exact rfl; exact rfl; exact rfl; (repeat (with_reducible (first | exact At.head _ | apply At.tail))); infer_instance; exact rfl; exact rfl; exact rfl; exact rfl; clear HO; intro w HO; (simp only [Act.put])))
            refine wpList_nil (thenQ_keep (HO.heldO (by with_reducible (repeat (first | exact List.nil_sublist _ | apply List.Sublist.cons_cons | apply List.Sublist.cons)))) ?_)
            ((with_reducible apply wpSched_pure); exact rfl; exact rfl; (intro w'; go_simp; try with_reducible rfl); (simp only [Act.put, List.setIfInBounds_toArray, List.set_cons_succ, List.set_cons_zero]))
            refine wpSched_end ?_
            go_wp2_with fail
            go_meet
            exact ⟨b10, rfl, rfl, HO⟩
        clear HO
        obtain ⟨b10, rfl, rfl, HO⟩ := hcut
        go_upto_region 13 with fail
        refine region_sched2 ([box b10 (.cells #[.int .i64 0, .int .i64 q, .slice sv rs.length cv, .int .i64 A.p1, .int .i64 A.q1, .slice t1 A.r1.length d1, .int .i64 A.p2, .int .i64 A.q2, .slice t2 A.r2.length d2] 34), box b8 (.cells #[.int .i64 0, .int .i64 q, .slice su rs.length cu, .int .i64 A.p1, .int .i64 A.q1, .slice s1 A.r1.length c1, .int .i64 A.p2, .int .i64 A.q2, .slice s2 A.r2.length c2, .map (some bm)] 32)]) [(0, true), (1, true), (2, false), (3, false)] HO (by with_reducible (repeat (first | exact List.nil_sublist _ | apply List.Sublist.cons_cons | apply List.Sublist.cons))) (by kernel_rfl) (by kernel_rfl) ?_
        clear HO
        intro w HO
        repeat (first | ((with_reducible apply wpSched_loadAll); exact rfl; exact rfl; exact rfl; (repeat (with_reducible (first | exact At.head _ | apply At.tail))); infer_instance; exact rfl; exact rfl; (simp only [Act.put, List.setIfInBounds_toArray, List.set_cons_succ, List.set_cons_zero])) | ((with_reducible apply wpSched_pure); exact rfl; exact rfl; (intro w'; go_simp; try with_reducible rfl); (simp only [Act.put, List.setIfInBounds_toArray, List.set_cons_succ, List.set_cons_zero])))
        ((with_reducible apply wpSched_loud); exact rfl; ((with_reducible apply wpList_storeAll HO); exact rfl; exact rfl; exact rfl; (repeat (with_reducible (first | exact At.head _ | apply At.tail))); infer_instance; exact rfl; exact rfl; exact rfl; exact rfl; clear HO; intro w HO; (simp only [Act.put])))
        refine wpList_nil (thenQ_keep (HO.held (by with_reducible (repeat (first | exact List.nil_sublist _ | apply List.Sublist.cons_cons | apply List.Sublist.cons)))) ?_)
        ((with_reducible apply wpSched_loud); exact rfl; ((with_reducible apply wpList_storeAll HO); exact rfl; exact rfl; exact rfl; (repeat (with_reducible (first | exact At.head _ | apply At.tail))); infer_instance; exact rfl; exact rfl; exact rfl; exact rfl; clear HO; intro w HO; (simp only [Act.put])))
        refine wpList_nil (thenQ_keep (HO.held (by with_reducible (repeat (first | exact List.nil_sublist _ | apply List.Sublist.cons_cons | apply List.Sublist.cons)))) ?_)
        refine wpSched_end ?_
        go_upto_region 14 with fail
        have HR : PlayRel W b3 b5 b6 o d _ := ⟨A.put 0 q rs, su, s1, s2, sv, t1, t2, cu, c1, c2, cv, d1, d2, some bm, put_ok hA hok, HRW.out, g1, g2, ((Own.rowIsl (Own.mapIsM HO.tail.tail (.head _)) (.tail _ _ _ (.head _))).sub (by exact .cons_cons _ (.cons_cons _ (.cons_cons _ (.cons_cons _ (.cons_cons _ (.cons _ (.cons_cons _ (.cons_cons _ (.cons _ (List.Sublist.refl _))))))))))).perm ((List.perm_append_comm (l₁ := [_]) (l₂ := [_, _, _, _, _, _])).trans (List.perm_middle (l₁ := [_, _, _]) (l₂ := [_, _, _])).symm)⟩
        clear AC RC hA g0 g1 g2 hst HRW hok
        clear HO
        obtain ⟨A, s0, s1, s2, t0, t1, t2, c0, c1, c2, d0, d1, d2, m, hA, g0, g1, g2, HO⟩ := HR
        have RW1 : ∀ w, Own W w [box b5 (.cells #[.int .i64 A.p0, .int .i64 A.q0, .slice s0 A.r0.length c0, .int .i64 A.p1, .int .i64 A.q1, .slice s1 A.r1.length c1, .int .i64 A.p2, .int .i64 A.q2, .slice s2 A.r2.length c2, .map m] 32), box b6 (.cells #[.int .i64 A.p0, .int .i64 A.q0, .slice t0 A.r0.length d0, .int .i64 A.p1, .int .i64 A.q1, .slice t1 A.r1.length d1, .int .i64 A.p2, .int .i64 A.q2, .slice t2 A.r2.length d2] 34), box b3 (.cells #[.int .i64 o, .int .i64 d] 43), isl 5 (.slice s0 A.r0.length c0) (A.r0.map rowC), isl 5 (.slice s1 A.r1.length c1) (A.r1.map rowC), isl 5 (.slice s2 A.r2.length c2) (A.r2.map rowC), mapM (.map m) (allF A)] → Calls Tryd.prog 19 #[.agg #[.int .i64 A.p0, .int .i64 A.q0, .slice s0 A.r0.length c0, .int .i64 A.p1, .int .i64 A.q1, .slice s1 A.r1.length c1, .int .i64 A.p2, .int .i64 A.q2, .slice s2 A.r2.length c2, .map m], .agg #[.int .i64 o, .int .i64 d]] w fun e w' => e = .returned (.tuple #[rowT (rowOf A o d), .bool (rowOf A o d).isSome]) ∧ Below w.heap.size w w' := fun w h1 => intRow_any A o d _ (ownIsl h1 (.tail _ _ _ (.tail _ _ _ (.tail _ _ _ (.head _))))) (ownIsl h1 (.tail _ _ _ (.tail _ _ _ (.tail _ _ _ (.tail _ _ _ (.head _)))))) (ownIsl h1 (.tail _ _ _ (.tail _ _ _ (.tail _ _ _ (.tail _ _ _ (.tail _ _ _ (.head _))))))) (h1.has (mapM (.map m) (allF A)) (by simp)) HW.out.1 HW.out.2 (allF_row hA HW.out.1 HW.out.2)
        have RR := fun w (hb : Below W.heap.size W w) => refRow_any A o d (g0.below hb g0.lt) (g1.below hb g1.lt) (g2.below hb g2.lt)
        have NT : ∀ o', (Lit.int .i64 o').wf = true → ∀ w, Own W w [box b5 (.cells #[.int .i64 A.p0, .int .i64 A.q0, .slice s0 A.r0.length c0, .int .i64 A.p1, .int .i64 A.q1, .slice s1 A.r1.length c1, .int .i64 A.p2, .int .i64 A.q2, .slice s2 A.r2.length c2, .map m] 32), box b6 (.cells #[.int .i64 A.p0, .int .i64 A.q0, .slice t0 A.r0.length d0, .int .i64 A.p1, .int .i64 A.q1, .slice t1 A.r1.length d1, .int .i64 A.p2, .int .i64 A.q2, .slice t2 A.r2.length d2] 34), box b3 (.cells #[.int .i64 o, .int .i64 d] 43), isl 5 (.slice s0 A.r0.length c0) (A.r0.map rowC), isl 5 (.slice s1 A.r1.length c1) (A.r1.map rowC), isl 5 (.slice s2 A.r2.length c2) (A.r2.map rowC), mapM (.map m) (allF A)] → Calls Tryd.prog 21 #[.agg #[.int .i64 A.p0, .int .i64 A.q0, .slice s0 A.r0.length c0, .int .i64 A.p1, .int .i64 A.q1, .slice s1 A.r1.length c1, .int .i64 A.p2, .int .i64 A.q2, .slice s2 A.r2.length c2, .map m], .int .i64 o'] w fun e w' => e = .returned (.int .i64 (netI A o')) ∧ Below w.heap.size w w' := fun o' hw w h1 => intNet_any A o' (ownIsl h1 (.tail _ _ _ (.tail _ _ _ (.tail _ _ _ (.head _))))) (ownIsl h1 (.tail _ _ _ (.tail _ _ _ (.tail _ _ _ (.tail _ _ _ (.head _)))))) (ownIsl h1 (.tail _ _ _ (.tail _ _ _ (.tail _ _ _ (.tail _ _ _ (.tail _ _ _ (.head _))))))) hA (h1.has (mapM (.map m) (allF A)) (by simp)) (fun o d h2 h3 => allF_row hA h2 h3) hw
        have RN := fun o' w (hb : Below W.heap.size W w) => refNet_any A o' (g0.below hb g0.lt) (g1.below hb g1.lt) (g2.below hb g2.lt) hA
        have AL : ∀ w, Own W w [box b5 (.cells #[.int .i64 A.p0, .int .i64 A.q0, .slice s0 A.r0.length c0, .int .i64 A.p1, .int .i64 A.q1, .slice s1 A.r1.length c1, .int .i64 A.p2, .int .i64 A.q2, .slice s2 A.r2.length c2, .map m] 32), box b6 (.cells #[.int .i64 A.p0, .int .i64 A.q0, .slice t0 A.r0.length d0, .int .i64 A.p1, .int .i64 A.q1, .slice t1 A.r1.length d1, .int .i64 A.p2, .int .i64 A.q2, .slice t2 A.r2.length d2] 34), box b3 (.cells #[.int .i64 o, .int .i64 d] 43), isl 5 (.slice s0 A.r0.length c0) (A.r0.map rowC), isl 5 (.slice s1 A.r1.length c1) (A.r1.map rowC), isl 5 (.slice s2 A.r2.length c2) (A.r2.map rowC), mapM (.map m) (allF A)] → Calls Tryd.prog 17 #[.agg #[.int .i64 A.p0, .int .i64 A.q0, .slice s0 A.r0.length c0, .int .i64 A.p1, .int .i64 A.q1, .slice s1 A.r1.length c1, .int .i64 A.p2, .int .i64 A.q2, .slice s2 A.r2.length c2, .map m], .agg #[.int .i64 A.p0, .int .i64 A.q0, .slice t0 A.r0.length d0, .int .i64 A.p1, .int .i64 A.q1, .slice t1 A.r1.length d1, .int .i64 A.p2, .int .i64 A.q2, .slice t2 A.r2.length d2]] w fun e w' => e = .returned (.bool true) ∧ Below w.heap.size w w' := fun w h1 => by
          have := alike_any A A (ownIsl h1 (.tail _ _ _ (.tail _ _ _ (.tail _ _ _ (.head _))))) (ownIsl h1 (.tail _ _ _ (.tail _ _ _ (.tail _ _ _ (.tail _ _ _ (.head _)))))) (ownIsl h1 (.tail _ _ _ (.tail _ _ _ (.tail _ _ _ (.tail _ _ _ (.tail _ _ _ (.head _))))))) (g0.below h1.grown g0.lt) (g1.below h1.grown g1.lt) (g2.below h1.grown g2.lt) hA (mapForm m)
          rwa [sameI_self] at this
        obtain ⟨x1, x2, x3, x4, x5, hx⟩ := rowT_form (rowOf A o d)
        rw [hx] at RW1 RR
        generalize (rowOf A o d).isSome = ok at *
        have NE := fun w => row_ne_self x1 x2 x3 x4 x5 w
        have NO := NT o HW.out.1
        have RO := RN o
        have HNT := Lib.hid NT
        have HRN := Lib.hid RN
        have HG := Lib.hid (And.intro hA (And.intro g0 (And.intro g1 g2)))
        clear hx NT RN hA g0 g1 g2
        generalize hnz : netI A o = nz at *
        clear hnz
        cases ok
        all_goals
          go_wp2_with (first | (first | go_big_skip | ((with_reducible apply wpList_loadAll HO); exact rfl; exact rfl; (repeat (with_reducible (first | exact At.head _ | apply At.tail))); infer_instance; exact rfl; exact rfl; (simp only [Act.put, List.setIfInBounds_toArray, List.set_cons_succ, List.set_cons_zero])) | ((with_reducible apply wpList_loadOne HO); exact rfl; exact rfl; (repeat (with_reducible (first | exact At.head _ | apply At.tail))); exact rfl; infer_instance; exact rfl; (simp only [Act.put, List.setIfInBounds_toArray, List.set_cons_succ, List.set_cons_zero]))) | ((with_reducible apply wpList_storeAll HO); exact rfl; exact rfl; exact rfl; (repeat (with_reducible (first | exact At.head _ | apply At.tail))); infer_instance; exact rfl; exact rfl; exact rfl; exact rfl; clear HO; intro w HO; (simp only [Act.put])) | (first | ((with_reducible apply wpList_boxAgg _ HO rfl); exact rfl; exact rfl; exact rfl; clear HO; intro b12 w HO; (simp only [Act.put, List.setIfInBounds_toArray, List.set_cons_succ, List.set_cons_zero])) | ((with_reducible apply wpList_allocAgg _ HO rfl); exact rfl; infer_instance; exact rfl; clear HO; intro b12 w HO; (simp only [Act.put, List.setIfInBounds_toArray, List.set_cons_succ, List.set_cons_zero]))) | (go_at_call 19; go_must (((with_reducible refine (RW1 _ HO).mono ?_); (rintro e w ⟨rfl, hb⟩; replace HO := HO.call hb; clear hb)))) | (go_at_call 20; go_must (((with_reducible refine (RR _ HO.grown).mono ?_); (rintro e w ⟨rfl, hb⟩; replace HO := HO.call hb; clear hb)))))
          refine region_own HO (by kernel_rfl) (by kernel_rfl) ?_
          clear HO
          intro F HF
          repeat (first | (first | go_big_quiet_skip | ((with_reducible apply wpQuiet_loadAll HF); exact rfl; exact rfl; (repeat (with_reducible (first | exact At.head _ | apply At.tail))); infer_instance; exact rfl; exact rfl; (simp only [Act.put, List.setIfInBounds_toArray, List.set_cons_succ, List.set_cons_zero])) | ((with_reducible apply wpQuiet_loadOne HF); exact rfl; exact rfl; (repeat (with_reducible (first | exact At.head _ | apply At.tail))); exact rfl; infer_instance; exact rfl; (simp only [Act.put, List.setIfInBounds_toArray, List.set_cons_succ, List.set_cons_zero])) | ((with_reducible apply wpQuiet_loadPart HF); exact rfl; exact rfl; (repeat (with_reducible (first | exact At.head _ | apply At.tail))); infer_instance; exact (Nat.le_of_ble_eq_true rfl); (simp only [List.drop_succ_cons, List.drop_zero, List.take_succ_cons, List.take_zero]; rfl); exact rfl; (simp only [Act.put, List.setIfInBounds_toArray, List.set_cons_succ, List.set_cons_zero]))) | go_big_quiet_step ((first | (go_at_call 17; (with_reducible exact calls_fam HF (AL _ (HF.own _).tail.tail))) | (go_at_call 21; (with_reducible exact calls_fam HF (NO _ (HF.own _).tail.tail))) | (go_at_call 22; (with_reducible exact calls_fam HF (RO _ (HF.own _).grown))))))
          refine wpQuiet_nil ?_
          intro x
          have HO := HF.own x
          clear HF
          generalize F x = w at *
          clear x F
          go_wp2_with fail
          go_loopw [16] (fun i wr => ∃ k : Nat, k ≤ 8 ∧ i = .int .i64 (k : Int) ∧ Own W wr [box b5 (.cells #[.int .i64 A.p0, .int .i64 A.q0, .slice s0 A.r0.length c0, .int .i64 A.p1, .int .i64 A.q1, .slice s1 A.r1.length c1, .int .i64 A.p2, .int .i64 A.q2, .slice s2 A.r2.length c2, .map m] 32), box b6 (.cells #[.int .i64 A.p0, .int .i64 A.q0, .slice t0 A.r0.length d0, .int .i64 A.p1, .int .i64 A.q1, .slice t1 A.r1.length d1, .int .i64 A.p2, .int .i64 A.q2, .slice t2 A.r2.length d2] 34), box b3 (.cells #[.int .i64 o, .int .i64 d] 43), isl 5 (.slice s0 A.r0.length c0) (A.r0.map rowC), isl 5 (.slice s1 A.r1.length c1) (A.r1.map rowC), isl 5 (.slice s2 A.r2.length c2) (A.r2.map rowC), mapM (.map m) (allF A)]) (fun i _ => 8 - (intOf i).toNat)
          case atStart => exact ⟨0, by omega, rfl, HO.tail.tail⟩
          case round =>
            clear HO
            obtain ⟨k, hk, rfl, HO⟩ := hrel
            by_cases hk8 : k < 8
            · have hkI : (k : Int) < 8 := by omega
              have N1 := HNT.out k (wf_small (by omega) (by omega))
              have N2 := HRN.out k
              generalize netI A k = nk at *
              go_wp2_with fail
              refine region_own HO (by kernel_rfl) (by kernel_rfl) ?_
              clear HO
              intro F HF
              repeat (first | (first | go_big_quiet_skip | ((with_reducible apply wpQuiet_loadAll HF); exact rfl; exact rfl; (repeat (with_reducible (first | exact At.head _ | apply At.tail))); infer_instance; exact rfl; exact rfl; (simp only [Act.put, List.setIfInBounds_toArray, List.set_cons_succ, List.set_cons_zero])) | ((with_reducible apply wpQuiet_loadOne HF); exact rfl; exact rfl; (repeat (with_reducible (first | exact At.head _ | apply At.tail))); exact rfl; infer_instance; exact rfl; (simp only [Act.put, List.setIfInBounds_toArray, List.set_cons_succ, List.set_cons_zero])) | ((with_reducible apply wpQuiet_loadPart HF); exact rfl; exact rfl; (repeat (with_reducible (first | exact At.head _ | apply At.tail))); infer_instance; exact (Nat.le_of_ble_eq_true rfl); (simp only [List.drop_succ_cons, List.drop_zero, List.take_succ_cons, List.take_zero]; rfl); exact rfl; (simp only [Act.put, List.setIfInBounds_toArray, List.set_cons_succ, List.set_cons_zero]))) | go_big_quiet_step ((first | (go_at_call 21; (with_reducible exact calls_fam HF (N1 _ (HF.own _)))) | (go_at_call 22; (with_reducible exact calls_fam HF (N2 _ (HF.own _).grown))))))
              refine wpQuiet_nil ?_
              intro x
              have HO := HF.own x
              clear HF
              generalize F x = w at *
              clear x F
              go_wp2_with fail
              go_roundw
              case rel => exact ⟨k + 1, by omega, by go_num, HO⟩
              case measure => simp [intOf] <;> omega
            · obtain rfl : k = 8 := by omega
              go_wp2_with fail
              go_roundw
              case rel => exact ⟨j + 1, by omega, by go_num, ⟨A, s0, s1, s2, t0, t1, t2, c0, c1, c2, d0, d1, d2, m, HG.out.1, HG.out.2.1, HG.out.2.2.1, HG.out.2.2.2, HO⟩⟩
              case measure => simp [intOf] <;> omega
      · have AC : ∀ w, Own W w [box b5 (.cells #[.int .i64 A.p0, .int .i64 A.q0, .slice s0 A.r0.length c0, .int .i64 A.p1, .int .i64 A.q1, .slice s1 A.r1.length c1, .int .i64 A.p2, .int .i64 A.q2, .slice s2 A.r2.length c2, .map m] 32), box b6 (.cells #[.int .i64 A.p0, .int .i64 A.q0, .slice t0 A.r0.length d0, .int .i64 A.p1, .int .i64 A.q1, .slice t1 A.r1.length d1, .int .i64 A.p2, .int .i64 A.q2, .slice t2 A.r2.length d2] 34), box b3 (.cells #[.int .i64 o, .int .i64 d] 43), isl 5 (.slice s0 A.r0.length c0) (A.r0.map rowC), isl 5 (.slice s1 A.r1.length c1) (A.r1.map rowC), isl 5 (.slice s2 A.r2.length c2) (A.r2.map rowC), mapM (.map m) (allF A)] → Calls Tryd.prog 14 #[.agg #[.int .i64 A.p0, .int .i64 A.q0, .slice s0 A.r0.length c0, .int .i64 A.p1, .int .i64 A.q1, .slice s1 A.r1.length c1, .int .i64 A.p2, .int .i64 A.q2, .slice s2 A.r2.length c2, .map m], .agg #[.int .i64 1, .int .i64 q, .slice sv rs.length cv]] w fun e w' => ∃ bm nm su cu, e = .returned (.tuple #[.agg #[.int .i64 A.p0, .int .i64 A.q0, .slice s0 A.r0.length c0, .int .i64 1, .int .i64 q, .slice su rs.length cu, .int .i64 A.p2, .int .i64 A.q2, .slice s2 A.r2.length c2, .map (some bm)], .int .i64 0]) ∧ Own w w' [mapE Tryd.prog 43 bm nm (allF (A.put 1 q rs)), row 45 5 (.slice su rs.length cu) (rs.map rowC)] := fun w h1 => (AC0 w h1).mono (fun e w' he => by
          unfold AccPost at he
          rw [if_pos hacc] at he
          obtain ⟨bm, nm, u, hO, ⟨su, cu, rfl⟩, rfl⟩ := he
          exact ⟨bm, nm, su, cu, rfl, hO⟩)
        have RC : ∀ w, Below W.heap.size W w → Calls Tryd.prog 18 #[.agg #[.int .i64 A.p0, .int .i64 A.q0, .slice t0 A.r0.length d0, .int .i64 A.p1, .int .i64 A.q1, .slice t1 A.r1.length d1, .int .i64 A.p2, .int .i64 A.q2, .slice t2 A.r2.length d2], .agg #[.int .i64 1, .int .i64 q, .slice sv rs.length cv]] w fun e w' => e = .returned (.tuple #[.agg #[.int .i64 A.p0, .int .i64 A.q0, .slice t0 A.r0.length d0, .int .i64 1, .int .i64 q, .slice sv rs.length cv, .int .i64 A.p2, .int .i64 A.q2, .slice t2 A.r2.length d2], .int .i64 0]) ∧ Below w.heap.size w w' := fun w hb => (RC0 w hb).mono (fun e w' he => by
          unfold RefAccPost at he
          rw [if_pos hacc] at he
          exact ⟨he.2, he.1⟩)
        clear AC0 RC0 hacc
        go_upto_region 8 with fail
        go_cut [8, 9] (fun x e wx => ∃ (b8 bm nm : Nat) (su : Option Addr) (cu : Nat), x = .pointer (some ⟨b8, 0, none⟩) ∧ e = .int .i64 0 ∧ Own W wx (box b8 (.cells #[.int .i64 A.p0, .int .i64 A.q0, .slice s0 A.r0.length c0, .int .i64 1, .int .i64 q, .slice su rs.length cu, .int .i64 A.p2, .int .i64 A.q2, .slice s2 A.r2.length c2, .map (some bm)] 32) :: mapE Tryd.prog 43 bm nm (allF (A.put 1 q rs)) :: row 45 5 (.slice su rs.length cu) (rs.map rowC) :: [box b5 (.cells #[.int .i64 A.p0, .int .i64 A.q0, .slice s0 A.r0.length c0, .int .i64 A.p1, .int .i64 A.q1, .slice s1 A.r1.length c1, .int .i64 A.p2, .int .i64 A.q2, .slice s2 A.r2.length c2, .map m] 32), box b6 (.cells #[.int .i64 A.p0, .int .i64 A.q0, .slice t0 A.r0.length d0, .int .i64 A.p1, .int .i64 A.q1, .slice t1 A.r1.length d1, .int .i64 A.p2, .int .i64 A.q2, .slice t2 A.r2.length d2] 34), box b3 (.cells #[.int .i64 o, .int .i64 d] 43), isl 5 (.slice s0 A.r0.length c0) (A.r0.map rowC), isl 5 (.slice s1 A.r1.length c1) (A.r1.map rowC), isl 5 (.slice s2 A.r2.length c2) (A.r2.map rowC), mapM (.map m) (allF A)]))
        case first =>
          refine region_treeO [box b5 (.cells #[.int .i64 A.p0, .int .i64 A.q0, .slice s0 A.r0.length c0, .int .i64 A.p1, .int .i64 A.q1, .slice s1 A.r1.length c1, .int .i64 A.p2, .int .i64 A.q2, .slice s2 A.r2.length c2, .map m] 32)] [(0, true), (1, true), (2, true), (3, true), (4, true), (6, true), (7, true), (8, true), (11, true)] (.fork [(0, true), (1, true), (2, true), (3, true), (4, true)] 5 9 (.fin [(6, true), (7, true), (8, true), (9, false), (10, false), (11, true)]) (.fin [(5, false), (6, true), (7, true), (8, true), (10, false), (11, true)])) HO (by with_reducible (repeat (first | exact List.nil_sublist _ | apply List.Sublist.cons_cons | apply List.Sublist.cons))) (by kernel_rfl) (by kernel_rfl) ?_
          clear HO
          intro w HO
          refine wpS_fork ?_
          repeat (first | ((with_reducible apply wpSched_loadAll); exact rfl; exact rfl; exact rfl; (repeat (with_reducible (first | exact At.head _ | apply At.tail))); infer_instance; exact rfl; exact rfl; (simp only [Act.put, List.setIfInBounds_toArray, List.set_cons_succ, List.set_cons_zero])) | ((with_reducible apply wpSched_loadAt); exact rfl; exact rfl; exact rfl; exact (fun w' hw => hst.out w' (hw _ List.mem_cons_self)); infer_instance; exact rfl; exact rfl; (simp only [Act.put, List.setIfInBounds_toArray, List.set_cons_succ, List.set_cons_zero])) | ((with_reducible apply wpSched_pure); exact rfl; exact rfl; (intro w'; go_simp; try with_reducible rfl); (simp only [Act.put, List.setIfInBounds_toArray, List.set_cons_succ, List.set_cons_zero])))
          refine fork_end rfl rfl ?_ ?_
          · go_wp2_with ((go_at_call 14; go_must ((with_reducible refine (AC _ HO).mono ?_); rintro e w ⟨bm, nm, su, cu, rfl, HO1⟩; replace HO := HO.lift HO1; clear HO1; simp only [List.cons_append, List.nil_append] at HO)))
            refine thenQ_keep (HO.heldO (by with_reducible (repeat (first | exact List.nil_sublist _ | apply List.Sublist.cons_cons | apply List.Sublist.cons)))) ?_
            refine wpS_fin ?_
            repeat ((with_reducible apply wpSched_pure); exact rfl; exact rfl; (intro w'; go_simp; try with_reducible rfl); (simp only [Act.put, List.setIfInBounds_toArray, List.set_cons_succ, List.set_cons_zero]))
            ((with_reducible apply wpSched_loud); exact rfl; (first | ((with_reducible apply wpList_boxAgg _ HO rfl); exact rfl; exact rfl; exact rfl; clear HO; intro b8 w HO; (simp only [Act.put, List.setIfInBounds_toArray, List.set_cons_succ, List.set_cons_zero])) | ((with_reducible apply wpList_allocAgg _ HO rfl); exact rfl; infer_instance; exact rfl; clear HO; intro b8 w HO; (simp only [Act.put, List.setIfInBounds_toArray, List.set_cons_succ, List.set_cons_zero])) | ((with_reducible apply wpList_boxOne _ HO rfl); exact rfl; (first | (simp [Act.eval]; rfl) | exact rfl); exact rfl; exact rfl; clear HO; intro b8 w HO; (simp only [Act.put, List.setIfInBounds_toArray, List.set_cons_succ, List.set_cons_zero])) | ((with_reducible apply wpList_alloc _ HO rfl); exact rfl; infer_instance; exact rfl; exact rfl; clear HO; intro b8 w HO; (simp only [Act.put, List.setIfInBounds_toArray, List.set_cons_succ, List.set_cons_zero]))))
            refine wpList_nil (thenQ_keep (HO.heldO (by with_reducible (repeat (first | exact List.nil_sublist _ | apply List.Sublist.cons_cons | apply List.Sublist.cons)))) ?_)
            ((with_reducible apply wpSched_loud); exact rfl; ((with_reducible apply wpList_storeAll HO); exact rfl; exact rfl; exact rfl; (repeat (with_reducible (first | exact At.head _ | apply At.tail))); infer_instance; exact rfl; exact rfl; exact rfl; exact rfl; clear HO; intro w HO; (simp only [Act.put])))
            refine wpList_nil (thenQ_keep (HO.heldO (by with_reducible (repeat (first | exact List.nil_sublist _ | apply List.Sublist.cons_cons | apply List.Sublist.cons)))) ?_)
            ((with_reducible apply wpSched_pure); exact rfl; exact rfl; (intro w'; go_simp; try with_reducible rfl); (simp only [Act.put, List.setIfInBounds_toArray, List.set_cons_succ, List.set_cons_zero]))
            refine wpSched_end ?_
            go_wp2_with fail
            go_meet
            exact ⟨b8, bm, nm, su, cu, rfl, rfl, HO⟩
          · (first | ((with_reducible apply wpList_boxAgg _ HO rfl); exact rfl; exact rfl; exact rfl; clear HO; intro b8 w HO; (simp only [Act.put, List.setIfInBounds_toArray, List.set_cons_succ, List.set_cons_zero])) | ((with_reducible apply wpList_allocAgg _ HO rfl); exact rfl; infer_instance; exact rfl; clear HO; intro b8 w HO; (simp only [Act.put, List.setIfInBounds_toArray, List.set_cons_succ, List.set_cons_zero])) | ((with_reducible apply wpList_boxOne _ HO rfl); exact rfl; (first | (simp [Act.eval]; rfl) | exact rfl); exact rfl; exact rfl; clear HO; intro b8 w HO; (simp only [Act.put, List.setIfInBounds_toArray, List.set_cons_succ, List.set_cons_zero])) | ((with_reducible apply wpList_alloc _ HO rfl); exact rfl; infer_instance; exact rfl; exact rfl; clear HO; intro b8 w HO; (simp only [Act.put, List.setIfInBounds_toArray, List.set_cons_succ, List.set_cons_zero])))
            refine wpList_nil (thenQ_keep (HO.heldO (by with_reducible (repeat (first | exact List.nil_sublist _ | apply List.Sublist.cons_cons | apply List.Sublist.cons)))) ?_)
            refine wpS_fin ?_
            ((with_reducible apply wpSched_loud); exact rfl; go_wp2_with ((go_at_call 14; go_must ((with_reducible refine (AC _ HO.tail).mono ?_); rintro e w ⟨bm, nm, su, cu, rfl, HO1⟩; replace HO := HO.lift HO1; clear HO1; simp only [List.cons_append, List.nil_append] at HO))))
            refine thenQ_keep (HO.heldO (by with_reducible (repeat (first | exact List.nil_sublist _ | apply List.Sublist.cons_cons | apply List.Sublist.cons)))) ?_
            repeat ((with_reducible apply wpSched_pure); exact rfl; exact rfl; (intro w'; go_simp; try with_reducible rfl); (simp only [Act.put, List.setIfInBounds_toArray, List.set_cons_succ, List.set_cons_zero]))
            ((with_reducible apply wpSched_loud); exact rfl; ((with_reducible apply wpList_storeAll HO); exact rfl; exact rfl; exact rfl; (repeat (with_reducible (first | exact At.head _ | apply At.tail))); infer_instance; exact rfl; exact rfl; exact rfl; exact rfl; clear HO; intro w HO; (simp only [Act.put])))
            refine wpList_nil (thenQ_keep (HO.heldO (by with_reducible (repeat (first | exact List.nil_sublist _ | apply List.Sublist.cons_cons | apply List.Sublist.cons)))) ?_)
            ((with_reducible apply wpSched_pure); exact rfl; exact rfl; (intro w'; go_simp; try with_reducible rfl); (simp only [Act.put, List.setIfInBounds_toArray, List.set_cons_succ, List.set_cons_zero]))
            refine wpSched_end ?_
            go_wp2_with fail
            go_meet
            exact ⟨b8, bm, nm, su, cu, rfl, rfl, HO.front3⟩
        clear HO
        obtain ⟨b8, bm, nm, su, cu, rfl, rfl, HO⟩ := hcut
        go_upto_region 9 with fail
        go_cut [10, 11] (fun x e wx => ∃ b10 : Nat, x = .pointer (some ⟨b10, 0, none⟩) ∧ e = .int .i64 0 ∧ Own W wx (box b10 (.cells #[.int .i64 A.p0, .int .i64 A.q0, .slice t0 A.r0.length d0, .int .i64 1, .int .i64 q, .slice sv rs.length cv, .int .i64 A.p2, .int .i64 A.q2, .slice t2 A.r2.length d2] 34) :: box b8 (.cells #[.int .i64 A.p0, .int .i64 A.q0, .slice s0 A.r0.length c0, .int .i64 1, .int .i64 q, .slice su rs.length cu, .int .i64 A.p2, .int .i64 A.q2, .slice s2 A.r2.length c2, .map (some bm)] 32) :: mapE Tryd.prog 43 bm nm (allF (A.put 1 q rs)) :: row 45 5 (.slice su rs.length cu) (rs.map rowC) :: [box b5 (.cells #[.int .i64 A.p0, .int .i64 A.q0, .slice s0 A.r0.length c0, .int .i64 A.p1, .int .i64 A.q1, .slice s1 A.r1.length c1, .int .i64 A.p2, .int .i64 A.q2, .slice s2 A.r2.length c2, .map m] 32), box b6 (.cells #[.int .i64 A.p0, .int .i64 A.q0, .slice t0 A.r0.length d0, .int .i64 A.p1, .int .i64 A.q1, .slice t1 A.r1.length d1, .int .i64 A.p2, .int .i64 A.q2, .slice t2 A.r2.length d2] 34), box b3 (.cells #[.int .i64 o, .int .i64 d] 43), isl 5 (.slice s0 A.r0.length c0) (A.r0.map rowC), isl 5 (.slice s1 A.r1.length c1) (A.r1.map rowC), isl 5 (.slice s2 A.r2.length c2) (A.r2.map rowC), mapM (.map m) (allF A)]))
        case first =>
          refine region_treeO [box b6 (.cells #[.int .i64 A.p0, .int .i64 A.q0, .slice t0 A.r0.length d0, .int .i64 A.p1, .int .i64 A.q1, .slice t1 A.r1.length d1, .int .i64 A.p2, .int .i64 A.q2, .slice t2 A.r2.length d2] 34)] [(0, true), (1, true), (2, true), (3, true), (4, true), (6, true), (7, true), (8, true), (11, true)] (.fork [(0, true), (1, true), (2, true), (3, true), (4, true)] 5 9 (.fin [(6, true), (7, true), (8, true), (9, false), (10, false), (11, true)]) (.fin [(5, false), (6, true), (7, true), (8, true), (10, false), (11, true)])) HO (by with_reducible (repeat (first | exact List.nil_sublist _ | apply List.Sublist.cons_cons | apply List.Sublist.cons))) (by kernel_rfl) (by kernel_rfl) ?_
          clear HO
          intro w HO
          refine wpS_fork ?_
          repeat (first | ((with_reducible apply wpSched_loadAll); exact rfl; exact rfl; exact rfl; (repeat (with_reducible (first | exact At.head _ | apply At.tail))); infer_instance; exact rfl; exact rfl; (simp only [Act.put, List.setIfInBounds_toArray, List.set_cons_succ, List.set_cons_zero])) | ((with_reducible apply wpSched_loadAt); exact rfl; exact rfl; exact rfl; exact (fun w' hw => hst.out w' (hw _ List.mem_cons_self)); infer_instance; exact rfl; exact rfl; (simp only [Act.put, List.setIfInBounds_toArray, List.set_cons_succ, List.set_cons_zero])) | ((with_reducible apply wpSched_pure); exact rfl; exact rfl; (intro w'; go_simp; try with_reducible rfl); (simp only [Act.put, List.setIfInBounds_toArray, List.set_cons_succ, List.set_cons_zero])))
          refine fork_end rfl rfl ?_ ?_
          · go_wp2_with ((go_at_call 18; go_must (((with_reducible refine (RC _ HO.grown).mono ?_); (rintro e w ⟨rfl, hb⟩; replace HO := HO.call hb; clear hb)))))
            refine thenQ_keep (HO.heldO (by with_reducible (repeat (first | exact List.nil_sublist _ | apply List.Sublist.cons_cons | apply List.Sublist.cons)))) ?_
            refine wpS_fin ?_
            repeat ((with_reducible apply wpSched_pure); exact rfl; exact rfl; (intro w'; go_simp; try with_reducible rfl); (simp only [Act.put, List.setIfInBounds_toArray, List.set_cons_succ, List.set_cons_zero]))
            ((with_reducible apply wpSched_loud); exact rfl; (first | ((with_reducible apply wpList_boxAgg _ HO rfl); exact rfl; exact rfl; exact rfl; clear HO; intro b10 w HO; (simp only [Act.put, List.setIfInBounds_toArray, List.set_cons_succ, List.set_cons_zero])) | ((with_reducible apply wpList_allocAgg _ HO rfl); exact rfl; infer_instance; exact rfl; clear HO; intro b10 w HO; (simp only [Act.put, List.setIfInBounds_toArray, List.set_cons_succ, List.set_cons_zero])) | ((with_reducible apply wpList_boxOne _ HO rfl); exact rfl; (first | (simp [Act.eval]; rfl) | exact rfl); exact rfl; exact rfl; clear HO; intro b10 w HO; (simp only [Act.put, List.setIfInBounds_toArray, List.set_cons_succ, List.set_cons_zero])) | ((with_reducible apply wpList_alloc _ HO rfl); exact rfl; infer_instance; exact rfl; exact rfl; clear HO; intro b10 w HO; (simp only [Act.put, List.setIfInBounds_toArray, List.set_cons_succ, List.set_cons_zero]))))
            refine wpList_nil (thenQ_keep (HO.heldO (by with_reducible (repeat (first | exact List.nil_sublist _ | apply List.Sublist.cons_cons | apply List.Sublist.cons)))) ?_)
            ((with_reducible apply wpSched_loud); exact rfl; ((with_reducible apply wpList_storeAll HO); exact rfl; exact rfl; exact rfl; (repeat (with_reducible (first | exact At.head _ | apply At.tail))); infer_instance; exact rfl; exact rfl; exact rfl; exact rfl; clear HO; intro w HO; (simp only [Act.put])))
            refine wpList_nil (thenQ_keep (HO.heldO (by with_reducible (repeat (first | exact List.nil_sublist _ | apply List.Sublist.cons_cons | apply List.Sublist.cons)))) ?_)
            ((with_reducible apply wpSched_pure); exact rfl; exact rfl; (intro w'; go_simp; try with_reducible rfl); (simp only [Act.put, List.setIfInBounds_toArray, List.set_cons_succ, List.set_cons_zero]))
            refine wpSched_end ?_
            go_wp2_with fail
            go_meet
            exact ⟨b10, rfl, rfl, HO⟩
          · (first | ((with_reducible apply wpList_boxAgg _ HO rfl); exact rfl; exact rfl; exact rfl; clear HO; intro b10 w HO; (simp only [Act.put, List.setIfInBounds_toArray, List.set_cons_succ, List.set_cons_zero])) | ((with_reducible apply wpList_allocAgg _ HO rfl); exact rfl; infer_instance; exact rfl; clear HO; intro b10 w HO; (simp only [Act.put, List.setIfInBounds_toArray, List.set_cons_succ, List.set_cons_zero])) | ((with_reducible apply wpList_boxOne _ HO rfl); exact rfl; (first | (simp [Act.eval]; rfl) | exact rfl); exact rfl; exact rfl; clear HO; intro b10 w HO; (simp only [Act.put, List.setIfInBounds_toArray, List.set_cons_succ, List.set_cons_zero])) | ((with_reducible apply wpList_alloc _ HO rfl); exact rfl; infer_instance; exact rfl; exact rfl; clear HO; intro b10 w HO; (simp only [Act.put, List.setIfInBounds_toArray, List.set_cons_succ, List.set_cons_zero])))
            refine wpList_nil (thenQ_keep (HO.heldO (by with_reducible (repeat (first | exact List.nil_sublist _ | apply List.Sublist.cons_cons | apply List.Sublist.cons)))) ?_)
            refine wpS_fin ?_
            ((with_reducible apply wpSched_loud); exact rfl; go_wp2_with ((go_at_call 18; go_must (((with_reducible refine (RC _ HO.grown).mono ?_); (rintro e w ⟨rfl, hb⟩; replace HO := HO.call hb; clear hb))))))
            refine thenQ_keep (HO.heldO (by with_reducible (repeat (first | exact List.nil_sublist _ | apply List.Sublist.cons_cons | apply List.Sublist.cons)))) ?_
            repeat ((with_reducible apply wpSched_pure); exact rfl; exact rfl; (intro w'; go_simp; try with_reducible rfl); (simp only [Act.put, List.setIfInBounds_toArray, List.set_cons_succ, List.set_cons_zero]))
            ((with_reducible apply wpSched_loud); exact rfl; ((with_reducible apply wpList_storeAll HO); exact rfl; exact rfl; exact rfl; (repeat (with_reducible (first | exact At.head _ | apply At.tail))); infer_instance; exact rfl; exact rfl; exact rfl; exact rfl; clear HO; intro w HO; (simp only [Act.put])))
            refine wpList_nil (thenQ_keep (HO.heldO (by with_reducible (repeat (first | exact List.nil_sublist _ | apply List.Sublist.cons_cons | apply List.Sublist.cons)))) ?_)
            ((with_reducible apply wpSched_pure); exact rfl; exact rfl; (intro w'; go_simp; try with_reducible rfl); (simp only [Act.put, List.setIfInBounds_toArray, List.set_cons_succ, List.set_cons_zero]))
            refine wpSched_end ?_
            go_wp2_with fail
            go_meet
            exact ⟨b10, rfl, rfl, HO⟩
        clear HO
        obtain ⟨b10, rfl, rfl, HO⟩ := hcut
        go_upto_region 13 with fail
        refine region_sched2 ([box b10 (.cells #[.int .i64 A.p0, .int .i64 A.q0, .slice t0 A.r0.length d0, .int .i64 1, .int .i64 q, .slice sv rs.length cv, .int .i64 A.p2, .int .i64 A.q2, .slice t2 A.r2.length d2] 34), box b8 (.cells #[.int .i64 A.p0, .int .i64 A.q0, .slice s0 A.r0.length c0, .int .i64 1, .int .i64 q, .slice su rs.length cu, .int .i64 A.p2, .int .i64 A.q2, .slice s2 A.r2.length c2, .map (some bm)] 32)]) [(0, true), (1, true), (2, false), (3, false)] HO (by with_reducible (repeat (first | exact List.nil_sublist _ | apply List.Sublist.cons_cons | apply List.Sublist.cons))) (by kernel_rfl) (by kernel_rfl) ?_
        clear HO
        intro w HO
        repeat (first | ((with_reducible apply wpSched_loadAll); exact rfl; exact rfl; exact rfl; (repeat (with_reducible (first | exact At.head _ | apply At.tail))); infer_instance; exact rfl; exact rfl; (simp only [Act.put, List.setIfInBounds_toArray, List.set_cons_succ, List.set_cons_zero])) | ((with_reducible apply wpSched_pure); exact rfl; exact rfl; (intro w'; go_simp; try with_reducible rfl); (simp only [Act.put, List.setIfInBounds_toArray, List.set_cons_succ, List.set_cons_zero])))
        ((with_reducible apply wpSched_loud); exact rfl; ((with_reducible apply wpList_storeAll HO); exact rfl; exact rfl; exact rfl; (repeat (with_reducible (first | exact At.head _ | apply At.tail))); infer_instance; exact rfl; exact rfl; exact rfl; exact rfl; clear HO; intro w HO; (simp only [Act.put])))
        refine wpList_nil (thenQ_keep (HO.held (by with_reducible (repeat (first | exact List.nil_sublist _ | apply List.Sublist.cons_cons | apply List.Sublist.cons)))) ?_)
        ((with_reducible apply wpSched_loud); exact rfl; ((with_reducible apply wpList_storeAll HO); exact rfl; exact rfl; exact rfl; (repeat (with_reducible (first | exact At.head _ | apply At.tail))); infer_instance; exact rfl; exact rfl; exact rfl; exact rfl; clear HO; intro w HO; (simp only [Act.put])))
        refine wpList_nil (thenQ_keep (HO.held (by with_reducible (repeat (first | exact List.nil_sublist _ | apply List.Sublist.cons_cons | apply List.Sublist.cons)))) ?_)
        refine wpSched_end ?_
        go_upto_region 14 with fail
        have HR : PlayRel W b3 b5 b6 o d _ := ⟨A.put 1 q rs, s0, su, s2, t0, sv, t2, c0, cu, c2, d0, cv, d2, some bm, put_ok hA hok, g0, HRW.out, g2, ((Own.rowIsl (Own.mapIsM HO.tail.tail (.head _)) (.tail _ _ _ (.head _))).sub (by exact .cons_cons _ (.cons_cons _ (.cons_cons _ (.cons_cons _ (.cons_cons _ (.cons_cons _ (.cons _ (.cons_cons _ (.cons _ (List.Sublist.refl _))))))))))).perm ((List.perm_append_comm (l₁ := [_]) (l₂ := [_, _, _, _, _, _])).trans (List.perm_middle (l₁ := [_, _, _, _]) (l₂ := [_, _])).symm)⟩
        clear AC RC hA g0 g1 g2 hst HRW hok
        clear HO
        obtain ⟨A, s0, s1, s2, t0, t1, t2, c0, c1, c2, d0, d1, d2, m, hA, g0, g1, g2, HO⟩ := HR
        have RW1 : ∀ w, Own W w [box b5 (.cells #[.int .i64 A.p0, .int .i64 A.q0, .slice s0 A.r0.length c0, .int .i64 A.p1, .int .i64 A.q1, .slice s1 A.r1.length c1, .int .i64 A.p2, .int .i64 A.q2, .slice s2 A.r2.length c2, .map m] 32), box b6 (.cells #[.int .i64 A.p0, .int .i64 A.q0, .slice t0 A.r0.length d0, .int .i64 A.p1, .int .i64 A.q1, .slice t1 A.r1.length d1, .int .i64 A.p2, .int .i64 A.q2, .slice t2 A.r2.length d2] 34), box b3 (.cells #[.int .i64 o, .int .i64 d] 43), isl 5 (.slice s0 A.r0.length c0) (A.r0.map rowC), isl 5 (.slice s1 A.r1.length c1) (A.r1.map rowC), isl 5 (.slice s2 A.r2.length c2) (A.r2.map rowC), mapM (.map m) (allF A)] → Calls Tryd.prog 19 #[.agg #[.int .i64 A.p0, .int .i64 A.q0, .slice s0 A.r0.length c0, .int .i64 A.p1, .int .i64 A.q1, .slice s1 A.r1.length c1, .int .i64 A.p2, .int .i64 A.q2, .slice s2 A.r2.length c2, .map m], .agg #[.int .i64 o, .int .i64 d]] w fun e w' => e = .returned (.tuple #[rowT (rowOf A o d), .bool (rowOf A o d).isSome]) ∧ Below w.heap.size w w' := fun w h1 => intRow_any A o d _ (ownIsl h1 (.tail _ _ _ (.tail _ _ _ (.tail _ _ _ (.head _))))) (ownIsl h1 (.tail _ _ _ (.tail _ _ _ (.tail _ _ _ (.tail _ _ _ (.head _)))))) (ownIsl h1 (.tail _ _ _ (.tail _ _ _ (.tail _ _ _ (.tail _ _ _ (.tail _ _ _ (.head _))))))) (h1.has (mapM (.map m) (allF A)) (by simp)) HW.out.1 HW.out.2 (allF_row hA HW.out.1 HW.out.2)
        have RR := fun w (hb : Below W.heap.size W w) => refRow_any A o d (g0.below hb g0.lt) (g1.below hb g1.lt) (g2.below hb g2.lt)
        have NT : ∀ o', (Lit.int .i64 o').wf = true → ∀ w, Own W w [box b5 (.cells #[.int .i64 A.p0, .int .i64 A.q0, .slice s0 A.r0.length c0, .int .i64 A.p1, .int .i64 A.q1, .slice s1 A.r1.length c1, .int .i64 A.p2, .int .i64 A.q2, .slice s2 A.r2.length c2, .map m] 32), box b6 (.cells #[.int .i64 A.p0, .int .i64 A.q0, .slice t0 A.r0.length d0, .int .i64 A.p1, .int .i64 A.q1, .slice t1 A.r1.length d1, .int .i64 A.p2, .int .i64 A.q2, .slice t2 A.r2.length d2] 34), box b3 (.cells #[.int .i64 o, .int .i64 d] 43), isl 5 (.slice s0 A.r0.length c0) (A.r0.map rowC), isl 5 (.slice s1 A.r1.length c1) (A.r1.map rowC), isl 5 (.slice s2 A.r2.length c2) (A.r2.map rowC), mapM (.map m) (allF A)] → Calls Tryd.prog 21 #[.agg #[.int .i64 A.p0, .int .i64 A.q0, .slice s0 A.r0.length c0, .int .i64 A.p1, .int .i64 A.q1, .slice s1 A.r1.length c1, .int .i64 A.p2, .int .i64 A.q2, .slice s2 A.r2.length c2, .map m], .int .i64 o'] w fun e w' => e = .returned (.int .i64 (netI A o')) ∧ Below w.heap.size w w' := fun o' hw w h1 => intNet_any A o' (ownIsl h1 (.tail _ _ _ (.tail _ _ _ (.tail _ _ _ (.head _))))) (ownIsl h1 (.tail _ _ _ (.tail _ _ _ (.tail _ _ _ (.tail _ _ _ (.head _)))))) (ownIsl h1 (.tail _ _ _ (.tail _ _ _ (.tail _ _ _ (.tail _ _ _ (.tail _ _ _ (.head _))))))) hA (h1.has (mapM (.map m) (allF A)) (by simp)) (fun o d h2 h3 => allF_row hA h2 h3) hw
        have RN := fun o' w (hb : Below W.heap.size W w) => refNet_any A o' (g0.below hb g0.lt) (g1.below hb g1.lt) (g2.below hb g2.lt) hA
        have AL : ∀ w, Own W w [box b5 (.cells #[.int .i64 A.p0, .int .i64 A.q0, .slice s0 A.r0.length c0, .int .i64 A.p1, .int .i64 A.q1, .slice s1 A.r1.length c1, .int .i64 A.p2, .int .i64 A.q2, .slice s2 A.r2.length c2, .map m] 32), box b6 (.cells #[.int .i64 A.p0, .int .i64 A.q0, .slice t0 A.r0.length d0, .int .i64 A.p1, .int .i64 A.q1, .slice t1 A.r1.length d1, .int .i64 A.p2, .int .i64 A.q2, .slice t2 A.r2.length d2] 34), box b3 (.cells #[.int .i64 o, .int .i64 d] 43), isl 5 (.slice s0 A.r0.length c0) (A.r0.map rowC), isl 5 (.slice s1 A.r1.length c1) (A.r1.map rowC), isl 5 (.slice s2 A.r2.length c2) (A.r2.map rowC), mapM (.map m) (allF A)] → Calls Tryd.prog 17 #[.agg #[.int .i64 A.p0, .int .i64 A.q0, .slice s0 A.r0.length c0, .int .i64 A.p1, .int .i64 A.q1, .slice s1 A.r1.length c1, .int .i64 A.p2, .int .i64 A.q2, .slice s2 A.r2.length c2, .map m], .agg #[.int .i64 A.p0, .int .i64 A.q0, .slice t0 A.r0.length d0, .int .i64 A.p1, .int .i64 A.q1, .slice t1 A.r1.length d1, .int .i64 A.p2, .int .i64 A.q2, .slice t2 A.r2.length d2]] w fun e w' => e = .returned (.bool true) ∧ Below w.heap.size w w' := fun w h1 => by
          have := alike_any A A (ownIsl h1 (.tail _ _ _ (.tail _ _ _ (.tail _ _ _ (.head _))))) (ownIsl h1 (.tail _ _ _ (.tail _ _ _ (.tail _ _ _ (.tail _ _ _ (.head _)))))) (ownIsl h1 (.tail _ _ _ (.tail _ _ _ (.tail _ _ _ (.tail _ _ _ (.tail _ _ _ (.head _))))))) (g0.below h1.grown g0.lt) (g1.below h1.grown g1.lt) (g2.below h1.grown g2.lt) hA (mapForm m)
          rwa [sameI_self] at this
        obtain ⟨x1, x2, x3, x4, x5, hx⟩ := rowT_form (rowOf A o d)
        rw [hx] at RW1 RR
        generalize (rowOf A o d).isSome = ok at *
        have NE := fun w => row_ne_self x1 x2 x3 x4 x5 w
        have NO := NT o HW.out.1
        have RO := RN o
        have HNT := Lib.hid NT
        have HRN := Lib.hid RN
        have HG := Lib.hid (And.intro hA (And.intro g0 (And.intro g1 g2)))
        clear hx NT RN hA g0 g1 g2
        generalize hnz : netI A o = nz at *
        clear hnz
        cases ok
        all_goals
          go_wp2_with (first | (first | go_big_skip | ((with_reducible apply wpList_loadAll HO); exact rfl; exact rfl; (repeat (with_reducible (first | exact At.head _ | apply At.tail))); infer_instance; exact rfl; exact rfl; (simp only [Act.put, List.setIfInBounds_toArray, List.set_cons_succ, List.set_cons_zero])) | ((with_reducible apply wpList_loadOne HO); exact rfl; exact rfl; (repeat (with_reducible (first | exact At.head _ | apply At.tail))); exact rfl; infer_instance; exact rfl; (simp only [Act.put, List.setIfInBounds_toArray, List.set_cons_succ, List.set_cons_zero]))) | ((with_reducible apply wpList_storeAll HO); exact rfl; exact rfl; exact rfl; (repeat (with_reducible (first | exact At.head _ | apply At.tail))); infer_instance; exact rfl; exact rfl; exact rfl; exact rfl; clear HO; intro w HO; (simp only [Act.put])) | (first | ((with_reducible apply wpList_boxAgg _ HO rfl); exact rfl; exact rfl; exact rfl; clear HO; intro b12 w HO; (simp only [Act.put, List.setIfInBounds_toArray, List.set_cons_succ, List.set_cons_zero])) | ((with_reducible apply wpList_allocAgg _ HO rfl); exact rfl; infer_instance; exact rfl; clear HO; intro b12 w HO; (simp only [Act.put, List.setIfInBounds_toArray, List.set_cons_succ, List.set_cons_zero]))) | (go_at_call 19; go_must (((with_reducible refine (RW1 _ HO).mono ?_); (rintro e w ⟨rfl, hb⟩; replace HO := HO.call hb; clear hb)))) | (go_at_call 20; go_must (((with_reducible refine (RR _ HO.grown).mono ?_); (rintro e w ⟨rfl, hb⟩; replace HO := HO.call hb; clear hb)))))
          refine region_own HO (by kernel_rfl) (by kernel_rfl) ?_
          clear HO
          intro F HF
          repeat (first | (first | go_big_quiet_skip | ((with_reducible apply wpQuiet_loadAll HF); exact rfl; exact rfl; (repeat (with_reducible (first | exact At.head _ | apply At.tail))); infer_instance; exact rfl; exact rfl; (simp only [Act.put, List.setIfInBounds_toArray, List.set_cons_succ, List.set_cons_zero])) | ((with_reducible apply wpQuiet_loadOne HF); exact rfl; exact rfl; (repeat (with_reducible (first | exact At.head _ | apply At.tail))); exact rfl; infer_instance; exact rfl; (simp only [Act.put, List.setIfInBounds_toArray, List.set_cons_succ, List.set_cons_zero])) | ((with_reducible apply wpQuiet_loadPart HF); exact rfl; exact rfl; (repeat (with_reducible (first | exact At.head _ | apply At.tail))); infer_instance; exact (Nat.le_of_ble_eq_true rfl); (simp only [List.drop_succ_cons, List.drop_zero, List.take_succ_cons, List.take_zero]; rfl); exact rfl; (simp only [Act.put, List.setIfInBounds_toArray, List.set_cons_succ, List.set_cons_zero]))) | go_big_quiet_step ((first | (go_at_call 17; (with_reducible exact calls_fam HF (AL _ (HF.own _).tail.tail))) | (go_at_call 21; (with_reducible exact calls_fam HF (NO _ (HF.own _).tail.tail))) | (go_at_call 22; (with_reducible exact calls_fam HF (RO _ (HF.own _).grown))))))
          refine wpQuiet_nil ?_
          intro x
          have HO := HF.own x
          clear HF
          generalize F x = w at *
          clear x F
          go_wp2_with fail
          go_loopw [16] (fun i wr => ∃ k : Nat, k ≤ 8 ∧ i = .int .i64 (k : Int) ∧ Own W wr [box b5 (.cells #[.int .i64 A.p0, .int .i64 A.q0, .slice s0 A.r0.length c0, .int .i64 A.p1, .int .i64 A.q1, .slice s1 A.r1.length c1, .int .i64 A.p2, .int .i64 A.q2, .slice s2 A.r2.length c2, .map m] 32), box b6 (.cells #[.int .i64 A.p0, .int .i64 A.q0, .slice t0 A.r0.length d0, .int .i64 A.p1, .int .i64 A.q1, .slice t1 A.r1.length d1, .int .i64 A.p2, .int .i64 A.q2, .slice t2 A.r2.length d2] 34), box b3 (.cells #[.int .i64 o, .int .i64 d] 43), isl 5 (.slice s0 A.r0.length c0) (A.r0.map rowC), isl 5 (.slice s1 A.r1.length c1) (A.r1.map rowC), isl 5 (.slice s2 A.r2.length c2) (A.r2.map rowC), mapM (.map m) (allF A)]) (fun i _ => 8 - (intOf i).toNat)
          case atStart => exact ⟨0, by omega, rfl, HO.tail.tail⟩
          case round =>
            clear HO
            obtain ⟨k, hk, rfl, HO⟩ := hrel
            by_cases hk8 : k < 8
            · have hkI : (k : Int) < 8 := by omega
              have N1 := HNT.out k (wf_small (by omega) (by omega))
              have N2 := HRN.out k
              generalize netI A k = nk at *
              go_wp2_with fail
              refine region_own HO (by kernel_rfl) (by kernel_rfl) ?_
              clear HO
              intro F HF
              repeat (first | (first | go_big_quiet_skip | ((with_reducible apply wpQuiet_loadAll HF); exact rfl; exact rfl; (repeat (with_reducible (first | exact At.head _ | apply At.tail))); infer_instance; exact rfl; exact rfl; (simp only [Act.put, List.setIfInBounds_toArray, List.set_cons_succ, List.set_cons_zero])) | ((with_reducible apply wpQuiet_loadOne HF); exact rfl; exact rfl; (repeat (with_reducible (first | exact At.head _ | apply At.tail))); exact rfl; infer_instance; exact rfl; (simp only [Act.put, List.setIfInBounds_toArray, List.set_cons_succ, List.set_cons_zero])) | ((with_reducible apply wpQuiet_loadPart HF); exact rfl; exact rfl; (repeat (with_reducible (first | exact At.head _ | apply At.tail))); infer_instance; exact (Nat.le_of_ble_eq_true rfl); (simp only [List.drop_succ_cons, List.drop_zero, List.take_succ_cons, List.take_zero]; rfl); exact rfl; (simp only [Act.put, List.setIfInBounds_toArray, List.set_cons_succ, List.set_cons_zero]))) | go_big_quiet_step ((first | (go_at_call 21; (with_reducible exact calls_fam HF (N1 _ (HF.own _)))) | (go_at_call 22; (with_reducible exact calls_fam HF (N2 _ (HF.own _).grown))))))
              refine wpQuiet_nil ?_
              intro x
              have HO := HF.own x
              clear HF
              generalize F x = w at *
              clear x F
              go_wp2_with fail
              go_roundw
              case rel => exact ⟨k + 1, by omega, by go_num, HO⟩
              case measure => simp [intOf] <;> omega
            · obtain rfl : k = 8 := by omega
              go_wp2_with fail
              go_roundw
              case rel => exact ⟨j + 1, by omega, by go_num, ⟨A, s0, s1, s2, t0, t1, t2, c0, c1, c2, d0, d1, d2, m, HG.out.1, HG.out.2.1, HG.out.2.2.1, HG.out.2.2.2, HO⟩⟩
              case measure => simp [intOf] <;> omega
      · have AC : ∀ w, Own W w [box b5 (.cells #[.int .i64 A.p0, .int .i64 A.q0, .slice s0 A.r0.length c0, .int .i64 A.p1, .int .i64 A.q1, .slice s1 A.r1.length c1, .int .i64 A.p2, .int .i64 A.q2, .slice s2 A.r2.length c2, .map m] 32), box b6 (.cells #[.int .i64 A.p0, .int .i64 A.q0, .slice t0 A.r0.length d0, .int .i64 A.p1, .int .i64 A.q1, .slice t1 A.r1.length d1, .int .i64 A.p2, .int .i64 A.q2, .slice t2 A.r2.length d2] 34), box b3 (.cells #[.int .i64 o, .int .i64 d] 43), isl 5 (.slice s0 A.r0.length c0) (A.r0.map rowC), isl 5 (.slice s1 A.r1.length c1) (A.r1.map rowC), isl 5 (.slice s2 A.r2.length c2) (A.r2.map rowC), mapM (.map m) (allF A)] → Calls Tryd.prog 14 #[.agg #[.int .i64 A.p0, .int .i64 A.q0, .slice s0 A.r0.length c0, .int .i64 A.p1, .int .i64 A.q1, .slice s1 A.r1.length c1, .int .i64 A.p2, .int .i64 A.q2, .slice s2 A.r2.length c2, .map m], .agg #[.int .i64 2, .int .i64 q, .slice sv rs.length cv]] w fun e w' => ∃ bm nm su cu, e = .returned (.tuple #[.agg #[.int .i64 A.p0, .int .i64 A.q0, .slice s0 A.r0.length c0, .int .i64 A.p1, .int .i64 A.q1, .slice s1 A.r1.length c1, .int .i64 2, .int .i64 q, .slice su rs.length cu, .map (some bm)], .int .i64 0]) ∧ Own w w' [mapE Tryd.prog 43 bm nm (allF (A.put 2 q rs)), row 45 5 (.slice su rs.length cu) (rs.map rowC)] := fun w h1 => (AC0 w h1).mono (fun e w' he => by
          unfold AccPost at he
          rw [if_pos hacc] at he
          obtain ⟨bm, nm, u, hO, ⟨su, cu, rfl⟩, rfl⟩ := he
          exact ⟨bm, nm, su, cu, rfl, hO⟩)
        have RC : ∀ w, Below W.heap.size W w → Calls Tryd.prog 18 #[.agg #[.int .i64 A.p0, .int .i64 A.q0, .slice t0 A.r0.length d0, .int .i64 A.p1, .int .i64 A.q1, .slice t1 A.r1.length d1, .int .i64 A.p2, .int .i64 A.q2, .slice t2 A.r2.length d2], .agg #[.int .i64 2, .int .i64 q, .slice sv rs.length cv]] w fun e w' => e = .returned (.tuple #[.agg #[.int .i64 A.p0, .int .i64 A.q0, .slice t0 A.r0.length d0, .int .i64 A.p1, .int .i64 A.q1, .slice t1 A.r1.length d1, .int .i64 2, .int .i64 q, .slice sv rs.length cv], .int .i64 0]) ∧ Below w.heap.size w w' := fun w hb => (RC0 w hb).mono (fun e w' he => by
          unfold RefAccPost at he
          rw [if_pos hacc] at he
          exact ⟨he.2, he.1⟩)
        clear AC0 RC0 hacc
        go_upto_region 8 with fail
        go_cut [8, 9] (fun x e wx => ∃ (b8 bm nm : Nat) (su : Option Addr) (cu : Nat), x = .pointer (some ⟨b8, 0, none⟩) ∧ e = .int .i64 0 ∧ Own W wx (box b8 (.cells #[.int .i64 A.p0, .int .i64 A.q0, .slice s0 A.r0.length c0, .int .i64 A.p1, .int .i64 A.q1, .slice s1 A.r1.length c1, .int .i64 2, .int .i64 q, .slice su rs.length cu, .map (some bm)] 32) :: mapE Tryd.prog 43 bm nm (allF (A.put 2 q rs)) :: row 45 5 (.slice su rs.length cu) (rs.map rowC) :: [box b5 (.cells #[.int .i64 A.p0, .int .i64 A.q0, .slice s0 A.r0.length c0, .int .i64 A.p1, .int .i64 A.q1, .slice s1 A.r1.length c1, .int .i64 A.p2, .int .i64 A.q2, .slice s2 A.r2.length c2, .map m] 32), box b6 (.cells #[.int .i64 A.p0, .int .i64 A.q0, .slice t0 A.r0.length d0, .int .i64 A.p1, .int .i64 A.q1, .slice t1 A.r1.length d1, .int .i64 A.p2, .int .i64 A.q2, .slice t2 A.r2.length d2] 34), box b3 (.cells #[.int .i64 o, .int .i64 d] 43), isl 5 (.slice s0 A.r0.length c0) (A.r0.map rowC), isl 5 (.slice s1 A.r1.length c1) (A.r1.map rowC), isl 5 (.slice s2 A.r2.length c2) (A.r2.map rowC), mapM (.map m) (allF A)]))
        case first =>
          refine region_treeO [box b5 (.cells #[.int .i64 A.p0, .int .i64 A.q0, .slice s0 A.r0.length c0, .int .i64 A.p1, .int .i64 A.q1, .slice s1 A.r1.length c1, .int .i64 A.p2, .int .i64 A.q2, .slice s2 A.r2.length c2, .map m] 32)] [(0, true), (1, true), (2, true), (3, true), (4, true), (6, true), (7, true), (8, true), (11, true)] (.fork [(0, true), (1, true), (2, true), (3, true), (4, true)] 5 9 (.fin [(6, true), (7, true), (8, true), (9, false), (10, false), (11, true)]) (.fin [(5, false), (6, true), (7, true), (8, true), (10, false), (11, true)])) HO (by with_reducible (repeat (first | exact List.nil_sublist _ | apply List.Sublist.cons_cons | apply List.Sublist.cons))) (by kernel_rfl) (by kernel_rfl) ?_
          clear HO
          intro w HO
          refine wpS_fork ?_
          repeat (first | ((with_reducible apply wpSched_loadAll); exact rfl; exact rfl; exact rfl; (repeat (with_reducible (first | exact At.head _ | apply At.tail))); infer_instance; exact rfl; exact rfl; (simp only [Act.put, List.setIfInBounds_toArray, List.set_cons_succ, List.set_cons_zero])) | ((with_reducible apply wpSched_loadAt); exact rfl; exact rfl; exact rfl; exact (fun w' hw => hst.out w' (hw _ List.mem_cons_self)); infer_instance; exact rfl; exact rfl; (simp only [Act.put, List.setIfInBounds_toArray, List.set_cons_succ, List.set_cons_zero])) | ((with_reducible apply wpSched_pure); exact rfl; exact rfl; (intro w'; go_simp; try with_reducible rfl); (simp only [Act.put, List.setIfInBounds_toArray, List.set_cons_succ, List.set_cons_zero])))
          refine fork_end rfl rfl ?_ ?_
          · go_wp2_with ((go_at_call 14; go_must ((with_reducible refine (AC _ HO).mono ?_); rintro e w ⟨bm, nm, su, cu, rfl, HO1⟩; replace HO := HO.lift HO1; clear HO1; simp only [List.cons_append, List.nil_append] at HO)))
            refine thenQ_keep (HO.heldO (by with_reducible (repeat (first | exact List.nil_sublist _ | apply List.Sublist.cons_cons | apply List.Sublist.cons)))) ?_
            refine wpS_fin ?_
            repeat ((with_reducible apply wpSched_pure); exact rfl; exact rfl; (intro w'; go_simp; try with_reducible rfl); (simp only [Act.put, List.setIfInBounds_toArray, List.set_cons_succ, List.set_cons_zero]))
            ((with_reducible apply wpSched_loud); exact rfl; (first | ((with_reducible apply wpList_boxAgg _ HO rfl); exact rfl; exact rfl; exact rfl; clear HO; intro b8 w HO; (simp only [Act.put, List.setIfInBounds_toArray, List.set_cons_succ, List.set_cons_zero])) | ((with_reducible apply wpList_allocAgg _ HO rfl); exact rfl; infer_instance; exact rfl; clear HO; intro b8 w HO; (simp only [Act.put, List.setIfInBounds_toArray, List.set_cons_succ, List.set_cons_zero])) | ((with_reducible apply wpList_boxOne _ HO rfl); exact rfl; (first | (simp [Act.eval]; rfl) | exact rfl); exact rfl; exact rfl; clear HO; intro b8 w HO; (simp only [Act.put, List.setIfInBounds_toArray, List.set_cons_succ, List.set_cons_zero])) | ((with_reducible apply wpList_alloc _ HO rfl); exact rfl; infer_instance; exact rfl; exact rfl; clear HO; intro b8 w HO; (simp only [Act.put, List.setIfInBounds_toArray, List.set_cons_succ, List.set_cons_zero]))))
            refine wpList_nil (thenQ_keep (HO.heldO (by with_reducible (repeat (first | exact List.nil_sublist _ | apply List.Sublist.cons_cons | apply List.Sublist.cons)))) ?_)
            ((with_reducible apply wpSched_loud); exact rfl; ((with_reducible apply wpList_storeAll HO); exact rfl; exact rfl; exact rfl; (repeat (with_reducible (first | exact At.head _ | apply At.tail))); infer_instance; exact rfl; exact rfl; exact rfl; exact rfl; clear HO; intro w HO; (simp only [Act.put])))
            refine wpList_nil (thenQ_keep (HO.heldO (by with_reducible (repeat (first | exact List.nil_sublist _ | apply List.Sublist.cons_cons | apply List.Sublist.cons)))) ?_)
            ((with_reducible apply wpSched_pure); exact rfl; exact rfl; (intro w'; go_simp; try with_reducible rfl); (simp only [Act.put, List.setIfInBounds_toArray, List.set_cons_succ, List.set_cons_zero]))
            refine wpSched_end ?_
            go_wp2_with fail
            go_meet
            exact ⟨b8, bm, nm, su, cu, rfl, rfl, HO⟩
          · (first | ((with_reducible apply wpList_boxAgg _ HO rfl); exact rfl; exact rfl; exact rfl; clear HO; intro b8 w HO; (simp only [Act.put, List.setIfInBounds_toArray, List.set_cons_succ, List.set_cons_zero])) | ((with_reducible apply wpList_allocAgg _ HO rfl); exact rfl; infer_instance; exact rfl; clear HO; intro b8 w HO; (simp only [Act.put, List.setIfInBounds_toArray, List.set_cons_succ, List.set_cons_zero])) | ((with_reducible apply wpList_boxOne _ HO rfl); exact rfl; (first | (simp [Act.eval]; rfl) | exact rfl); exact rfl; exact rfl; clear HO; intro b8 w HO; (simp only [Act.put, List.setIfInBounds_toArray, List.set_cons_succ, List.set_cons_zero])) | ((with_reducible apply wpList_alloc _ HO rfl); exact rfl; infer_instance; exact rfl; exact rfl; clear HO; intro b8 w HO; (simp only [Act.put, List.setIfInBounds_toArray, List.set_cons_succ, List.set_cons_zero])))
            refine wpList_nil (thenQ_keep (HO.heldO (by with_reducible (repeat (first | exact List.nil_sublist _ | apply List.Sublist.cons_cons | apply List.Sublist.cons)))) ?_)
            refine wpS_fin ?_
            ((with_reducible apply wpSched_loud); exact rfl; go_wp2_with ((go_at_call 14; go_must ((with_reducible refine (AC _ HO.tail).mono ?_); rintro e w ⟨bm, nm, su, cu, rfl, HO1⟩; replace HO := HO.lift HO1; clear HO1; simp only [List.cons_append, List.nil_append] at HO))))
            refine thenQ_keep (HO.heldO (by with_reducible (repeat (first | exact List.nil_sublist _ | apply List.Sublist.cons_cons | apply List.Sublist.cons)))) ?_
            repeat ((with_reducible apply wpSched_pure); exact rfl; exact rfl; (intro w'; go_simp; try with_reducible rfl); (simp only [Act.put, List.setIfInBounds_toArray, List.set_cons_succ, List.set_cons_zero]))
            ((with_reducible apply wpSched_loud); exact rfl; ((with_reducible apply wpList_storeAll HO); exact rfl; exact rfl; exact rfl; (repeat (with_reducible (first | exact At.head _ | apply At.tail))); infer_instance; exact rfl; exact rfl; exact rfl; exact rfl; clear HO; intro w HO; (simp only [Act.put])))
            refine wpList_nil (thenQ_keep (HO.heldO (by with_reducible (repeat (first | exact List.nil_sublist _ | apply List.Sublist.cons_cons | apply List.Sublist.cons)))) ?_)
            ((with_reducible apply wpSched_pure); exact rfl; exact rfl; (intro w'; go_simp; try with_reducible rfl); (simp only [Act.put, List.setIfInBounds_toArray, List.set_cons_succ, List.set_cons_zero]))
            refine wpSched_end ?_
            go_wp2_with fail
            go_meet
            exact ⟨b8, bm, nm, su, cu, rfl, rfl, HO.front3⟩
        clear HO
        obtain ⟨b8, bm, nm, su, cu, rfl, rfl, HO⟩ := hcut
        go_upto_region 9 with fail
        go_cut [10, 11] (fun x e wx => ∃ b10 : Nat, x = .pointer (some ⟨b10, 0, none⟩) ∧ e = .int .i64 0 ∧ Own W wx (box b10 (.cells #[.int .i64 A.p0, .int .i64 A.q0, .slice t0 A.r0.length d0, .int .i64 A.p1, .int .i64 A.q1, .slice t1 A.r1.length d1, .int .i64 2, .int .i64 q, .slice sv rs.length cv] 34) :: box b8 (.cells #[.int .i64 A.p0, .int .i64 A.q0, .slice s0 A.r0.length c0, .int .i64 A.p1, .int .i64 A.q1, .slice s1 A.r1.length c1, .int .i64 2, .int .i64 q, .slice su rs.length cu, .map (some bm)] 32) :: mapE Tryd.prog 43 bm nm (allF (A.put 2 q rs)) :: row 45 5 (.slice su rs.length cu) (rs.map rowC) :: [box b5 (.cells #[.int .i64 A.p0, .int .i64 A.q0, .slice s0 A.r0.length c0, .int .i64 A.p1, .int .i64 A.q1, .slice s1 A.r1.length c1, .int .i64 A.p2, .int .i64 A.q2, .slice s2 A.r2.length c2, .map m] 32), box b6 (.cells #[.int .i64 A.p0, .int .i64 A.q0, .slice t0 A.r0.length d0, .int .i64 A.p1, .int .i64 A.q1, .slice t1 A.r1.length d1, .int .i64 A.p2, .int .i64 A.q2, .slice t2 A.r2.length d2] 34), box b3 (.cells #[.int .i64 o, .int .i64 d] 43), isl 5 (.slice s0 A.r0.length c0) (A.r0.map rowC), isl 5 (.slice s1 A.r1.length c1) (A.r1.map rowC), isl 5 (.slice s2 A.r2.length c2) (A.r2.map rowC), mapM (.map m) (allF A)]))
        case first =>
          refine region_treeO [box b6 (.cells #[.int .i64 A.p0, .int .i64 A.q0, .slice t0 A.r0.length d0, .int .i64 A.p1, .int .i64 A.q1, .slice t1 A.r1.length d1, .int .i64 A.p2, .int .i64 A.q2, .slice t2 A.r2.length d2] 34)] [(0, true), (1, true), (2, true), (3, true), (4, true), (6, true), (7, true), (8, true), (11, true)] (.fork [(0, true), (1, true), (2, true), (3, true), (4, true)] 5 9 (.fin [(6, true), (7, true), (8, true), (9, false), (10, false), (11, true)]) (.fin [(5, false), (6, true), (7, true), (8, true), (10, false), (11, true)])) HO (by with_reducible (repeat (first | exact List.nil_sublist _ | apply List.Sublist.cons_cons | apply List.Sublist.cons))) (by kernel_rfl) (by kernel_rfl) ?_
          clear HO
          intro w HO
          refine wpS_fork ?_
          repeat (first | ((with_reducible apply wpSched_loadAll); exact rfl; exact rfl; exact rfl; (repeat (with_reducible (first | exact At.head _ | apply At.tail))); infer_instance; exact rfl; exact rfl; (simp only [Act.put, List.setIfInBounds_toArray, List.set_cons_succ, List.set_cons_zero])) | ((with_reducible apply wpSched_loadAt); exact rfl; exact rfl; exact rfl; exact (fun w' hw => hst.out w' (hw _ List.mem_cons_self)); infer_instance; exact rfl; exact rfl; (simp only [Act.put, List.setIfInBounds_toArray, List.set_cons_succ, List.set_cons_zero])) | ((with_reducible apply wpSched_pure); exact rfl; exact rfl; (intro w'; go_simp; try with_reducible rfl); (simp only [Act.put, List.setIfInBounds_toArray, List.set_cons_succ, List.set_cons_zero])))
          refine fork_end rfl rfl ?_ ?_
          · go_wp2_with ((go_at_call 18; go_must (((with_reducible refine (RC _ HO.grown).mono ?_); (rintro e w ⟨rfl, hb⟩; replace HO := HO.call hb; clear hb)))))
            refine thenQ_keep (HO.heldO (by with_reducible (repeat (first | exact List.nil_sublist _ | apply List.Sublist.cons_cons | apply List.Sublist.cons)))) ?_
            refine wpS_fin ?_
            repeat ((with_reducible apply wpSched_pure); exact rfl; exact rfl; (intro w'; go_simp; try with_reducible rfl); (simp only [Act.put, List.setIfInBounds_toArray, List.set_cons_succ, List.set_cons_zero]))
            ((with_reducible apply wpSched_loud); exact rfl; (first | ((with_reducible apply wpList_boxAgg _ HO rfl); exact rfl; exact rfl; exact rfl; clear HO; intro b10 w HO; (simp only [Act.put, List.setIfInBounds_toArray, List.set_cons_succ, List.set_cons_zero])) | ((with_reducible apply wpList_allocAgg _ HO rfl); exact rfl; infer_instance; exact rfl; clear HO; intro b10 w HO; (simp only [Act.put, List.setIfInBounds_toArray, List.set_cons_succ, List.set_cons_zero])) | ((with_reducible apply wpList_boxOne _ HO rfl); exact rfl; (first | (simp [Act.eval]; rfl) | exact rfl); exact rfl; exact rfl; clear HO; intro b10 w HO; (simp only [Act.put, List.setIfInBounds_toArray, List.set_cons_succ, List.set_cons_zero])) | ((with_reducible apply wpList_alloc _ HO rfl); exact rfl; infer_instance; exact rfl; exact rfl; clear HO; intro b10 w HO; (simp only [Act.put, List.setIfInBounds_toArray, List.set_cons_succ, List.set_cons_zero]))))
            refine wpList_nil (thenQ_keep (HO.heldO (by with_reducible (repeat (first | exact List.nil_sublist _ | apply List.Sublist.cons_cons | apply List.Sublist.cons)))) ?_)
            ((with_reducible apply wpSched_loud); exact rfl; ((with_reducible apply wpList_storeAll HO); exact rfl; exact rfl; exact rfl; (repeat (with_reducible (first | exact At.head _ | apply At.tail))); infer_instance; exact rfl; exact rfl; exact rfl; exact rfl; clear HO; intro w HO; (simp only [Act.put])))
            refine wpList_nil (thenQ_keep (HO.heldO (by with_reducible (repeat (first | exact List.nil_sublist _ | apply List.Sublist.cons_cons | apply List.Sublist.cons)))) ?_)
            ((with_reducible apply wpSched_pure); exact rfl; exact rfl; (intro w'; go_simp; try with_reducible rfl); (simp only [Act.put, List.setIfInBounds_toArray, List.set_cons_succ, List.set_cons_zero]))
            refine wpSched_end ?_
            go_wp2_with fail
            go_meet
            exact ⟨b10, rfl, rfl, HO⟩
          · (first | ((with_reducible apply wpList_boxAgg _ HO rfl); exact rfl; exact rfl; exact rfl; clear HO; intro b10 w HO; (simp only [Act.put, List.setIfInBounds_toArray, List.set_cons_succ, List.set_cons_zero])) | ((with_reducible apply wpList_allocAgg _ HO rfl); exact rfl; infer_instance; exact rfl; clear HO; intro b10 w HO; (simp only [Act.put, List.setIfInBounds_toArray, List.set_cons_succ, List.set_cons_zero])) | ((with_reducible apply wpList_boxOne _ HO rfl); exact rfl; (first | (simp [Act.eval]; rfl) | exact rfl); exact rfl; exact rfl; clear HO; intro b10 w HO; (simp only [Act.put, List.setIfInBounds_toArray, List.set_cons_succ, List.set_cons_zero])) | ((with_reducible apply wpList_alloc _ HO rfl); exact rfl; infer_instance; exact rfl; exact rfl; clear HO; intro b10 w HO; (simp only [Act.put, List.setIfInBounds_toArray, List.set_cons_succ, List.set_cons_zero])))
            refine wpList_nil (thenQ_keep (HO.heldO (by with_reducible (repeat (first | exact List.nil_sublist _ | apply List.Sublist.cons_cons | apply List.Sublist.cons)))) ?_)
            refine wpS_fin ?_
            ((with_reducible apply wpSched_loud); exact rfl; go_wp2_with ((go_at_call 18; go_must (((with_reducible refine (RC _ HO.grown).mono ?_); (rintro e w ⟨rfl, hb⟩; replace HO := HO.call hb; clear hb))))))
            refine thenQ_keep (HO.heldO (by with_reducible (repeat (first | exact List.nil_sublist _ | apply List.Sublist.cons_cons | apply List.Sublist.cons)))) ?_
            repeat ((with_reducible apply wpSched_pure); exact rfl; exact rfl; (intro w'; go_simp; try with_reducible rfl); (simp only [Act.put, List.setIfInBounds_toArray, List.set_cons_succ, List.set_cons_zero]))
            ((with_reducible apply wpSched_loud); exact rfl; ((with_reducible apply wpList_storeAll HO); exact rfl; exact rfl; exact rfl; (repeat (with_reducible (first | exact At.head _ | apply At.tail))); infer_instance; exact rfl; exact rfl; exact rfl; exact rfl; clear HO; intro w HO; (simp only [Act.put])))
            refine wpList_nil (thenQ_keep (HO.heldO (by with_reducible (repeat (first | exact List.nil_sublist _ | apply List.Sublist.cons_cons | apply List.Sublist.cons)))) ?_)
            ((with_reducible apply wpSched_pure); exact rfl; exact rfl; (intro w'; go_simp; try with_reducible rfl); (simp only [Act.put, List.setIfInBounds_toArray, List.set_cons_succ, List.set_cons_zero]))
            refine wpSched_end ?_
            go_wp2_with fail
            go_meet
            exact ⟨b10, rfl, rfl, HO⟩
        clear HO
        obtain ⟨b10, rfl, rfl, HO⟩ := hcut
        go_upto_region 13 with fail
        refine region_sched2 ([box b10 (.cells #[.int .i64 A.p0, .int .i64 A.q0, .slice t0 A.r0.length d0, .int .i64 A.p1, .int .i64 A.q1, .slice t1 A.r1.length d1, .int .i64 2, .int .i64 q, .slice sv rs.length cv] 34), box b8 (.cells #[.int .i64 A.p0, .int .i64 A.q0, .slice s0 A.r0.length c0, .int .i64 A.p1, .int .i64 A.q1, .slice s1 A.r1.length c1, .int .i64 2, .int .i64 q, .slice su rs.length cu, .map (some bm)] 32)]) [(0, true), (1, true), (2, false), (3, false)] HO (by with_reducible (repeat (first | exact List.nil_sublist _ | apply List.Sublist.cons_cons | apply List.Sublist.cons))) (by kernel_rfl) (by kernel_rfl) ?_
        clear HO
        intro w HO
        repeat (first | ((with_reducible apply wpSched_loadAll); exact rfl; exact rfl; exact rfl; (repeat (with_reducible (first | exact At.head _ | apply At.tail))); infer_instance; exact rfl; exact rfl; (simp only [Act.put, List.setIfInBounds_toArray, List.set_cons_succ, List.set_cons_zero])) | ((with_reducible apply wpSched_pure); exact rfl; exact rfl; (intro w'; go_simp; try with_reducible rfl); (simp only [Act.put, List.setIfInBounds_toArray, List.set_cons_succ, List.set_cons_zero])))
        ((with_reducible apply wpSched_loud); exact rfl; ((with_reducible apply wpList_storeAll HO); exact rfl; exact rfl; exact rfl; (repeat (with_reducible (first | exact At.head _ | apply At.tail))); infer_instance; exact rfl; exact rfl; exact rfl; exact rfl; clear HO; intro w HO; (simp only [Act.put])))
        refine wpList_nil (thenQ_keep (HO.held (by with_reducible (repeat (first | exact List.nil_sublist _ | apply List.Sublist.cons_cons | apply List.Sublist.cons)))) ?_)
        ((with_reducible apply wpSched_loud); exact rfl; ((with_reducible apply wpList_storeAll HO); exact rfl; exact rfl; exact rfl; (repeat (with_reducible (first | exact At.head _ | apply At.tail))); infer_instance; exact rfl; exact rfl; exact rfl; exact rfl; clear HO; intro w HO; (simp only [Act.put])))
        refine wpList_nil (thenQ_keep (HO.held (by with_reducible (repeat (first | exact List.nil_sublist _ | apply List.Sublist.cons_cons | apply List.Sublist.cons)))) ?_)
        refine wpSched_end ?_
        go_upto_region 14 with fail
        have HR : PlayRel W b3 b5 b6 o d _ := ⟨A.put 2 q rs, s0, s1, su, t0, t1, sv, c0, c1, cu, d0, d1, cv, some bm, put_ok hA hok, g0, g1, HRW.out, ((Own.rowIsl (Own.mapIsM HO.tail.tail (.head _)) (.tail _ _ _ (.head _))).sub (by exact .cons_cons _ (.cons_cons _ (.cons_cons _ (.cons_cons _ (.cons_cons _ (.cons_cons _ (.cons_cons _ (.cons _ (.cons _ (List.Sublist.refl _))))))))))).perm ((List.perm_append_comm (l₁ := [_]) (l₂ := [_, _, _, _, _, _])).trans (List.perm_middle (l₁ := [_, _, _, _, _]) (l₂ := [_])).symm)⟩
        clear AC RC hA g0 g1 g2 hst HRW hok
        clear HO
        obtain ⟨A, s0, s1, s2, t0, t1, t2, c0, c1, c2, d0, d1, d2, m, hA, g0, g1, g2, HO⟩ := HR
        have RW1 : ∀ w, Own W w [box b5 (.cells #[.int .i64 A.p0, .int .i64 A.q0, .slice s0 A.r0.length c0, .int .i64 A.p1, .int .i64 A.q1, .slice s1 A.r1.length c1, .int .i64 A.p2, .int .i64 A.q2, .slice s2 A.r2.length c2, .map m] 32), box b6 (.cells #[.int .i64 A.p0, .int .i64 A.q0, .slice t0 A.r0.length d0, .int .i64 A.p1, .int .i64 A.q1, .slice t1 A.r1.length d1, .int .i64 A.p2, .int .i64 A.q2, .slice t2 A.r2.length d2] 34), box b3 (.cells #[.int .i64 o, .int .i64 d] 43), isl 5 (.slice s0 A.r0.length c0) (A.r0.map rowC), isl 5 (.slice s1 A.r1.length c1) (A.r1.map rowC), isl 5 (.slice s2 A.r2.length c2) (A.r2.map rowC), mapM (.map m) (allF A)] → Calls Tryd.prog 19 #[.agg #[.int .i64 A.p0, .int .i64 A.q0, .slice s0 A.r0.length c0, .int .i64 A.p1, .int .i64 A.q1, .slice s1 A.r1.length c1, .int .i64 A.p2, .int .i64 A.q2, .slice s2 A.r2.length c2, .map m], .agg #[.int .i64 o, .int .i64 d]] w fun e w' => e = .returned (.tuple #[rowT (rowOf A o d), .bool (rowOf A o d).isSome]) ∧ Below w.heap.size w w' := fun w h1 => intRow_any A o d _ (ownIsl h1 (.tail _ _ _ (.tail _ _ _ (.tail _ _ _ (.head _))))) (ownIsl h1 (.tail _ _ _ (.tail _ _ _ (.tail _ _ _ (.tail _ _ _ (.head _)))))) (ownIsl h1 (.tail _ _ _ (.tail _ _ _ (.tail _ _ _ (.tail _ _ _ (.tail _ _ _ (.head _))))))) (h1.has (mapM (.map m) (allF A)) (by simp)) HW.out.1 HW.out.2 (allF_row hA HW.out.1 HW.out.2)
        have RR := fun w (hb : Below W.heap.size W w) => refRow_any A o d (g0.below hb g0.lt) (g1.below hb g1.lt) (g2.below hb g2.lt)
        have NT : ∀ o', (Lit.int .i64 o').wf = true → ∀ w, Own W w [box b5 (.cells #[.int .i64 A.p0, .int .i64 A.q0, .slice s0 A.r0.length c0, .int .i64 A.p1, .int .i64 A.q1, .slice s1 A.r1.length c1, .int .i64 A.p2, .int .i64 A.q2, .slice s2 A.r2.length c2, .map m] 32), box b6 (.cells #[.int .i64 A.p0, .int .i64 A.q0, .slice t0 A.r0.length d0, .int .i64 A.p1, .int .i64 A.q1, .slice t1 A.r1.length d1, .int .i64 A.p2, .int .i64 A.q2, .slice t2 A.r2.length d2] 34), box b3 (.cells #[.int .i64 o, .int .i64 d] 43), isl 5 (.slice s0 A.r0.length c0) (A.r0.map rowC), isl 5 (.slice s1 A.r1.length c1) (A.r1.map rowC), isl 5 (.slice s2 A.r2.length c2) (A.r2.map rowC), mapM (.map m) (allF A)] → Calls Tryd.prog 21 #[.agg #[.int .i64 A.p0, .int .i64 A.q0, .slice s0 A.r0.length c0, .int .i64 A.p1, .int .i64 A.q1, .slice s1 A.r1.length c1, .int .i64 A.p2, .int .i64 A.q2, .slice s2 A.r2.length c2, .map m], .int .i64 o'] w fun e w' => e = .returned (.int .i64 (netI A o')) ∧ Below w.heap.size w w' := fun o' hw w h1 => intNet_any A o' (ownIsl h1 (.tail _ _ _ (.tail _ _ _ (.tail _ _ _ (.head _))))) (ownIsl h1 (.tail _ _ _ (.tail _ _ _ (.tail _ _ _ (.tail _ _ _ (.head _)))))) (ownIsl h1 (.tail _ _ _ (.tail _ _ _ (.tail _ _ _ (.tail _ _ _ (.tail _ _ _ (.head _))))))) hA (h1.has (mapM (.map m) (allF A)) (by simp)) (fun o d h2 h3 => allF_row hA h2 h3) hw
        have RN := fun o' w (hb : Below W.heap.size W w) => refNet_any A o' (g0.below hb g0.lt) (g1.below hb g1.lt) (g2.below hb g2.lt) hA
        have AL : ∀ w, Own W w [box b5 (.cells #[.int .i64 A.p0, .int .i64 A.q0, .slice s0 A.r0.length c0, .int .i64 A.p1, .int .i64 A.q1, .slice s1 A.r1.length c1, .int .i64 A.p2, .int .i64 A.q2, .slice s2 A.r2.length c2, .map m] 32), box b6 (.cells #[.int .i64 A.p0, .int .i64 A.q0, .slice t0 A.r0.length d0, .int .i64 A.p1, .int .i64 A.q1, .slice t1 A.r1.length d1, .int .i64 A.p2, .int .i64 A.q2, .slice t2 A.r2.length d2] 34), box b3 (.cells #[.int .i64 o, .int .i64 d] 43), isl 5 (.slice s0 A.r0.length c0) (A.r0.map rowC), isl 5 (.slice s1 A.r1.length c1) (A.r1.map rowC), isl 5 (.slice s2 A.r2.length c2) (A.r2.map rowC), mapM (.map m) (allF A)] → Calls Tryd.prog 17 #[.agg #[.int .i64 A.p0, .int .i64 A.q0, .slice s0 A.r0.length c0, .int .i64 A.p1, .int .i64 A.q1, .slice s1 A.r1.length c1, .int .i64 A.p2, .int .i64 A.q2, .slice s2 A.r2.length c2, .map m], .agg #[.int .i64 A.p0, .int .i64 A.q0, .slice t0 A.r0.length d0, .int .i64 A.p1, .int .i64 A.q1, .slice t1 A.r1.length d1, .int .i64 A.p2, .int .i64 A.q2, .slice t2 A.r2.length d2]] w fun e w' => e = .returned (.bool true) ∧ Below w.heap.size w w' := fun w h1 => by
          have := alike_any A A (ownIsl h1 (.tail _ _ _ (.tail _ _ _ (.tail _ _ _ (.head _))))) (ownIsl h1 (.tail _ _ _ (.tail _ _ _ (.tail _ _ _ (.tail _ _ _ (.head _)))))) (ownIsl h1 (.tail _ _ _ (.tail _ _ _ (.tail _ _ _ (.tail _ _ _ (.tail _ _ _ (.head _))))))) (g0.below h1.grown g0.lt) (g1.below h1.grown g1.lt) (g2.below h1.grown g2.lt) hA (mapForm m)
          rwa [sameI_self] at this
        obtain ⟨x1, x2, x3, x4, x5, hx⟩ := rowT_form (rowOf A o d)
        rw [hx] at RW1 RR
        generalize (rowOf A o d).isSome = ok at *
        have NE := fun w => row_ne_self x1 x2 x3 x4 x5 w
        have NO := NT o HW.out.1
        have RO := RN o
        have HNT := Lib.hid NT
        have HRN := Lib.hid RN
        have HG := Lib.hid (And.intro hA (And.intro g0 (And.intro g1 g2)))
        clear hx NT RN hA g0 g1 g2
        generalize hnz : netI A o = nz at *
        clear hnz
        cases ok
        all_goals
          go_wp2_with (first | (first | go_big_skip | ((with_reducible apply wpList_loadAll HO); exact rfl; exact rfl; (repeat (with_reducible (first | exact At.head _ | apply At.tail))); infer_instance; exact rfl; exact rfl; (simp only [Act.put, List.setIfInBounds_toArray, List.set_cons_succ, List.set_cons_zero])) | ((with_reducible apply wpList_loadOne HO); exact rfl; exact rfl; (repeat (with_reducible (first | exact At.head _ | apply At.tail))); exact rfl; infer_instance; exact rfl; (simp only [Act.put, List.setIfInBounds_toArray, List.set_cons_succ, List.set_cons_zero]))) | ((with_reducible apply wpList_storeAll HO); exact rfl; exact rfl; exact rfl; (repeat (with_reducible (first | exact At.head _ | apply At.tail))); infer_instance; exact rfl; exact rfl; exact rfl; exact rfl; clear HO; intro w HO; (simp only [Act.put])) | (first | ((with_reducible apply wpList_boxAgg _ HO rfl); exact rfl; exact rfl; exact rfl; clear HO; intro b12 w HO; (simp only [Act.put, List.setIfInBounds_toArray, List.set_cons_succ, List.set_cons_zero])) | ((with_reducible apply wpList_allocAgg _ HO rfl); exact rfl; infer_instance; exact rfl; clear HO; intro b12 w HO; (simp only [Act.put, List.setIfInBounds_toArray, List.set_cons_succ, List.set_cons_zero]))) | (go_at_call 19; go_must (((with_reducible refine (RW1 _ HO).mono ?_); (rintro e w ⟨rfl, hb⟩; replace HO := HO.call hb; clear hb)))) | (go_at_call 20; go_must (((with_reducible refine (RR _ HO.grown).mono ?_); (rintro e w ⟨rfl, hb⟩; replace HO := HO.call hb; clear hb)))))
          refine region_own HO (by kernel_rfl) (by kernel_rfl) ?_
          clear HO
          intro F HF
          repeat (first | (first | go_big_quiet_skip | ((with_reducible apply wpQuiet_loadAll HF); exact rfl; exact rfl; (repeat (with_reducible (first | exact At.head _ | apply At.tail))); infer_instance; exact rfl; exact rfl; (simp only [Act.put, List.setIfInBounds_toArray, List.set_cons_succ, List.set_cons_zero])) | ((with_reducible apply wpQuiet_loadOne HF); exact rfl; exact rfl; (repeat (with_reducible (first | exact At.head _ | apply At.tail))); exact rfl; infer_instance; exact rfl; (simp only [Act.put, List.setIfInBounds_toArray, List.set_cons_succ, List.set_cons_zero])) | ((with_reducible apply wpQuiet_loadPart HF); exact rfl; exact rfl; (repeat (with_reducible (first | exact At.head _ | apply At.tail))); infer_instance; exact (Nat.le_of_ble_eq_true rfl); (simp only [List.drop_succ_cons, List.drop_zero, List.take_succ_cons, List.take_zero]; rfl); exact rfl; (simp only [Act.put, List.setIfInBounds_toArray, List.set_cons_succ, List.set_cons_zero]))) | go_big_quiet_step ((first | (go_at_call 17; (with_reducible exact calls_fam HF (AL _ (HF.own _).tail.tail))) | (go_at_call 21; (with_reducible exact calls_fam HF (NO _ (HF.own _).tail.tail))) | (go_at_call 22; (with_reducible exact calls_fam HF (RO _ (HF.own _).grown))))))
          refine wpQuiet_nil ?_
          intro x
          have HO := HF.own x
          clear HF
          generalize F x = w at *
          clear x F
          go_wp2_with fail
          go_loopw [16] (fun i wr => ∃ k : Nat, k ≤ 8 ∧ i = .int .i64 (k : Int) ∧ Own W wr [box b5 (.cells #[.int .i64 A.p0, .int .i64 A.q0, .slice s0 A.r0.length c0, .int .i64 A.p1, .int .i64 A.q1, .slice s1 A.r1.length c1, .int .i64 A.p2, .int .i64 A.q2, .slice s2 A.r2.length c2, .map m] 32), box b6 (.cells #[.int .i64 A.p0, .int .i64 A.q0, .slice t0 A.r0.length d0, .int .i64 A.p1, .int .i64 A.q1, .slice t1 A.r1.length d1, .int .i64 A.p2, .int .i64 A.q2, .slice t2 A.r2.length d2] 34), box b3 (.cells #[.int .i64 o, .int .i64 d] 43), isl 5 (.slice s0 A.r0.length c0) (A.r0.map rowC), isl 5 (.slice s1 A.r1.length c1) (A.r1.map rowC), isl 5 (.slice s2 A.r2.length c2) (A.r2.map rowC), mapM (.map m) (allF A)]) (fun i _ => 8 - (intOf i).toNat)
          case atStart => exact ⟨0, by omega, rfl, HO.tail.tail⟩
          case round =>
            clear HO
            obtain ⟨k, hk, rfl, HO⟩ := hrel
            by_cases hk8 : k < 8
            · have hkI : (k : Int) < 8 := by omega
              have N1 := HNT.out k (wf_small (by omega) (by omega))
              have N2 := HRN.out k
              generalize netI A k = nk at *
              go_wp2_with fail
              refine region_own HO (by kernel_rfl) (by kernel_rfl) ?_
              clear HO
              intro F HF
              repeat (first | (first | go_big_quiet_skip | ((with_reducible apply wpQuiet_loadAll HF); exact rfl; exact rfl; (repeat (with_reducible (first | exact At.head _ | apply At.tail))); infer_instance; exact rfl; exact rfl; (simp only [Act.put, List.setIfInBounds_toArray, List.set_cons_succ, List.set_cons_zero])) | ((with_reducible apply wpQuiet_loadOne HF); exact rfl; exact rfl; (repeat (with_reducible (first | exact At.head _ | apply At.tail))); exact rfl; infer_instance; exact rfl; (simp only [Act.put, List.setIfInBounds_toArray, List.set_cons_succ, List.set_cons_zero])) | ((with_reducible apply wpQuiet_loadPart HF); exact rfl; exact rfl; (repeat (with_reducible (first | exact At.head _ | apply At.tail))); infer_instance; exact (Nat.le_of_ble_eq_true rfl); (simp only [List.drop_succ_cons, List.drop_zero, List.take_succ_cons, List.take_zero]; rfl); exact rfl; (simp only [Act.put, List.setIfInBounds_toArray, List.set_cons_succ, List.set_cons_zero]))) | go_big_quiet_step ((first | (go_at_call 21; (with_reducible exact calls_fam HF (N1 _ (HF.own _)))) | (go_at_call 22; (with_reducible exact calls_fam HF (N2 _ (HF.own _).grown))))))
              refine wpQuiet_nil ?_
              intro x
              have HO := HF.own x
              clear HF
              generalize F x = w at *
              clear x F
              go_wp2_with fail
              go_roundw
              case rel => exact ⟨k + 1, by omega, by go_num, HO⟩
              case measure => simp [intOf] <;> omega
            · obtain rfl : k = 8 := by omega
              go_wp2_with fail
              go_roundw
              case rel => exact ⟨j + 1, by omega, by go_num, ⟨A, s0, s1, s2, t0, t1, t2, c0, c1, c2, d0, d1, d2, m, HG.out.1, HG.out.2.1, HG.out.2.2.1, HG.out.2.2.2, HO⟩⟩
              case measure => simp [intOf] <;> omega
end Go.Proofs.YtlfphfklcifgpaaDoor

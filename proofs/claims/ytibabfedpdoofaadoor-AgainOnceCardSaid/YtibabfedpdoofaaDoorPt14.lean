/-
  The document's core: a reply, a statement, any entry, by walking its text; conditions: the core is one that entries come to, the rows lie in memory, int64 numbers.
  Which entries are too great, by walking the law's text; conditions: texts no longer than memory bears.
  Entries that came in, and which of them are too great, by walking the law's text; conditions: the entries lie in memory.
  The core that entries come to, and the document's: alike, by walking the law's text; conditions: the entries lie in memory, the laid tables.
  A slice literal of several structs; over any program; conditions: none.
  The chapter's orders that are tried again, by walking the law's text; conditions: the laid tables.
-/
import Derived.Test.YtibabfedpdoofaaDoorPt2
import Derived.Test.YtibabfedpdoofaaDoorPt10
import Derived.Test.YtibabfedpdoofaaDoorPt11
import Derived.Test.YtibabfedpdoofaaDoorPt13
namespace Go.Proofs.YtibabfedpdoofaaDoor
open Go.RowKit Go.Own Go.Maps

set_option maxHeartbeats 16000000 in
set_option maxRecDepth 100000 in
theorem rcApp3_any {W w : World} {M G : List Ent} {x : RcA} {S : CoS} {A : InS} {v9 : Value} (y : EntS) (HO : Own W w (rcB x A :: M)) (hG : RcIn W G x S A) (hm : ∀ e ∈ G, e ∈ M) (hy : EntF W G y v9) (hok : CoOk S) (hids : idsOk S.L) (hlen : S.P.length ≤ 99000) (hk : y.k = 3) :
    Calls Tryd.prog 56 #[.pointer (some ⟨x.r, 0, none⟩), .agg #[.int .i64 (y).k, .int .i64 (y).id, .string ⟨(y).ref.toArray⟩, .string ⟨(y).sku.toArray⟩, .int .i64 (y).qty, .int .i64 (y).amt, .int .i64 (y).o, .int .i64 (y).d, .int .i64 (y).c, .int .i64 (y).p, .int .i64 (y).q, v9]] w fun e w' => e = .returned (.int .i64 (replyE S.L y.o y.d y.c)) ∧ ∃ (x' : RcA) (N : List Ent), x'.r = x.r ∧ Own W w' (rcB x' A :: (N ++ M)) ∧ RcIn W (N ++ G) x' (rawReplyS S y.o y.d y.c) A := by
  have hu := (hy.rows w HO.grown (fun e he => HO.has _ (.tail _ (hm e he)))).slice
  obtain ⟨vp, vc, rfl, -⟩ := hu
  have hid := hy.o
  obtain ⟨yk, yid, yref, ysku, yq, ya, id, yd, yc, yp, yqq, yrs⟩ := y
  simp only at hid hk
  subst hk
  change Calls Tryd.prog 56 _ w fun e w' => e = .returned (.int .i64 (replyE S.L id yd yc)) ∧ ∃ (x' : RcA) (N : List Ent), x'.r = x.r ∧ Own W w' (rcB x' A :: (N ++ M)) ∧ RcIn W (N ++ G) x' (rawReplyS S id yd yc) A
  have RP := Lib.hid (fun (w : World) (a : Ent) (h : Own W w (a :: rcB x A :: M)) => rcReply_any (M := a :: M) (G := G) id yd yc (h.perm (List.Perm.swap _ _ _)) hG (fun e he => .tail _ (hm e he)) hid hok hids hlen)
  clear hG hy hok hids hlen hid hm
  go_enter Tryd.func56, Tryd.ntmps56
  go_wp2_with (first | go_big_skip | (first | go_big_skip | ((with_reducible apply wpList_loadAll HO); exact rfl; exact rfl; (repeat (with_reducible (first | exact At.head _ | apply At.tail))); infer_instance; exact rfl; exact rfl; (simp only [Act.put, List.setIfInBounds_toArray, List.set_cons_succ, List.set_cons_zero])) | ((with_reducible apply wpList_loadOne HO); exact rfl; exact rfl; (repeat (with_reducible (first | exact At.head _ | apply At.tail))); exact rfl; infer_instance; exact rfl; (simp only [Act.put, List.setIfInBounds_toArray, List.set_cons_succ, List.set_cons_zero]))) | ((with_reducible apply wpList_loadPart HO); exact rfl; exact rfl; (repeat (with_reducible (first | exact At.head _ | apply At.tail))); infer_instance; exact (Nat.le_of_ble_eq_true rfl); (simp only [List.drop_succ_cons, List.drop_zero, List.take_succ_cons, List.take_zero]; rfl); exact rfl; (simp only [Act.put, List.setIfInBounds_toArray, List.set_cons_succ, List.set_cons_zero])) | (first | ((with_reducible apply wpList_boxAgg _ HO rfl); exact rfl; exact rfl; exact rfl; clear HO; intro b1 w HO; (simp only [Act.put, List.setIfInBounds_toArray, List.set_cons_succ, List.set_cons_zero])) | ((with_reducible apply wpList_allocAgg _ HO rfl); exact rfl; infer_instance; exact rfl; clear HO; intro b1 w HO; (simp only [Act.put, List.setIfInBounds_toArray, List.set_cons_succ, List.set_cons_zero]))) | (go_at_call 73; go_must ((have h9 := RP.out _ _ HO); (with_reducible refine h9.mono ?_); clear h9 HO; rintro e w ⟨rfl, x', N, hr, HO, hG⟩)))
  go_ret
  refine ⟨rfl, x', N ++ [_], hr, by rw [List.append_assoc]; exact HO, hG.mono (fun e he => ?_)⟩
  rcases List.mem_append.1 he with he | he
  · exact List.mem_append_left _ (List.mem_append_left _ he)
  · exact List.mem_append_right _ he

set_option maxHeartbeats 16000000 in
set_option maxRecDepth 100000 in
theorem rcApp5_any {W w : World} {M G : List Ent} {x : RcA} {S : CoS} {A : InS} {v9 : Value} (y : EntS) (HO : Own W w (rcB x A :: M)) (hG : RcIn W G x S A) (hm : ∀ e ∈ G, e ∈ M) (hy : EntF W G y v9) (h1 : y.k ≠ 1) (h2 : y.k ≠ 2) (h3 : y.k ≠ 3) (h4 : y.k ≠ 4) :
    Calls Tryd.prog 56 #[.pointer (some ⟨x.r, 0, none⟩), .agg #[.int .i64 (y).k, .int .i64 (y).id, .string ⟨(y).ref.toArray⟩, .string ⟨(y).sku.toArray⟩, .int .i64 (y).qty, .int .i64 (y).amt, .int .i64 (y).o, .int .i64 (y).d, .int .i64 (y).c, .int .i64 (y).p, .int .i64 (y).q, v9]] w fun e w' => e = .returned (.int .i64 2) ∧ ∃ (x' : RcA) (N : List Ent), x'.r = x.r ∧ Own W w' (rcB x' A :: (N ++ M)) ∧ RcIn W (N ++ G) x' S A := by
  have hu := (hy.rows w HO.grown (fun e he => HO.has _ (.tail _ (hm e he)))).slice
  obtain ⟨vp, vc, rfl, -⟩ := hu
  have HG := Lib.hid hG
  clear hG hy hm
  go_enter Tryd.func56, Tryd.ntmps56
  go_wp2_with (first | go_big_skip | (first | go_big_skip | ((with_reducible apply wpList_loadAll HO); exact rfl; exact rfl; (repeat (with_reducible (first | exact At.head _ | apply At.tail))); infer_instance; exact rfl; exact rfl; (simp only [Act.put, List.setIfInBounds_toArray, List.set_cons_succ, List.set_cons_zero])) | ((with_reducible apply wpList_loadOne HO); exact rfl; exact rfl; (repeat (with_reducible (first | exact At.head _ | apply At.tail))); exact rfl; infer_instance; exact rfl; (simp only [Act.put, List.setIfInBounds_toArray, List.set_cons_succ, List.set_cons_zero]))) | ((with_reducible apply wpList_loadPart HO); exact rfl; exact rfl; (repeat (with_reducible (first | exact At.head _ | apply At.tail))); infer_instance; exact (Nat.le_of_ble_eq_true rfl); (simp only [List.drop_succ_cons, List.drop_zero, List.take_succ_cons, List.take_zero]; rfl); exact rfl; (simp only [Act.put, List.setIfInBounds_toArray, List.set_cons_succ, List.set_cons_zero])) | (first | ((with_reducible apply wpList_boxAgg _ HO rfl); exact rfl; exact rfl; exact rfl; clear HO; intro b1 w HO; (simp only [Act.put, List.setIfInBounds_toArray, List.set_cons_succ, List.set_cons_zero])) | ((with_reducible apply wpList_allocAgg _ HO rfl); exact rfl; infer_instance; exact rfl; clear HO; intro b1 w HO; (simp only [Act.put, List.setIfInBounds_toArray, List.set_cons_succ, List.set_cons_zero]))))
  go_ret
  first | exact ⟨rfl, x, rfl, [], HO.tail, HG.out⟩ | exact ⟨rfl, x, [], rfl, HO.tail, HG.out⟩

theorem rc_put {w : World} {v0 v1 v2 v : Value} {A : InS} {p q : Int} {rs : List RowS} (h0 : IsRows w v0 A.r0) (h1 : IsRows w v1 A.r1) (h2 : IsRows w v2 A.r2) (h : IsRows w v rs) (hp : p = 0 ∨ p = 1 ∨ p = 2) :
    IsRows w (if p = 0 then v else v0) (A.put p q rs).r0 ∧ IsRows w (if p = 1 then v else v1) (A.put p q rs).r1 ∧ IsRows w (if p = 2 then v else v2) (A.put p q rs).r2 := by
  rcases hp with rfl | rfl | rfl
  · exact ⟨h, h1, h2⟩
  · exact ⟨h0, h, h2⟩
  · exact ⟨h0, h1, h⟩

set_option maxHeartbeats 16000000 in
set_option maxRecDepth 100000 in
theorem rcApp4no_any {W w : World} {M G : List Ent} {x : RcA} {S : CoS} {A : InS} {v9 : Value} (y : EntS) (HO : Own W w (rcB x A :: M)) (hG : RcIn W G x S A) (hm : ∀ e ∈ G, e ∈ M) (hy : EntF W G y v9) (hk : y.k = 4) (ha : accE A y.p y.q y.rs ≠ 0) :
    Calls Tryd.prog 56 #[.pointer (some ⟨x.r, 0, none⟩), .agg #[.int .i64 (y).k, .int .i64 (y).id, .string ⟨(y).ref.toArray⟩, .string ⟨(y).sku.toArray⟩, .int .i64 (y).qty, .int .i64 (y).amt, .int .i64 (y).o, .int .i64 (y).d, .int .i64 (y).c, .int .i64 (y).p, .int .i64 (y).q, v9]] w fun e w' => e = .returned (.int .i64 (accE A y.p y.q y.rs)) ∧ ∃ (x' : RcA) (N : List Ent), x'.r = x.r ∧ Own W w' (rcB x' A :: (N ++ M)) ∧ RcIn W (N ++ G) x' S A := by
  have hu := (hy.rows w HO.grown (fun e he => HO.has _ (.tail _ (hm e he)))).slice
  obtain ⟨vp, vc, rfl, -⟩ := hu
  obtain ⟨r, v, u, v0, v1, v2⟩ := x
  obtain ⟨yk, yid, yref, ysku, yq, ya, yo, yd, yc, p, q, rs⟩ := y
  have hrs := hy.rows
  simp only at hk ha hrs
  subst hk
  change Calls Tryd.prog 56 _ w fun e w' => e = .returned (.int .i64 (accE A p q rs)) ∧ ∃ (x' : RcA) (N : List Ent), x'.r = r ∧ Own W w' (rcB x' A :: (N ++ M)) ∧ RcIn W (N ++ G) x' S A
  have AC := Lib.hid (fun (w : World) (L : List Ent) (h : Own W w L) (hM : ∀ e ∈ M, e ∈ L) => show Calls Tryd.prog 74 #[.agg #[.int .i64 (A).p0, .int .i64 (A).q0, v0, .int .i64 (A).p1, .int .i64 (A).q1, v1, .int .i64 (A).p2, .int .i64 (A).q2, v2], .agg #[.int .i64 p, .int .i64 q, .slice vp rs.length vc]] w fun e w' => e = .returned (.tuple #[.agg #[.int .i64 0, .int .i64 0, .slice none 0 0, .int .i64 0, .int .i64 0, .slice none 0 0, .int .i64 0, .int .i64 0, .slice none 0 0], .int .i64 (accE A p q rs)]) ∧ Below w.heap.size w w' from by
    have h1 := hG.at h (fun e he => hM e (hm e he))
    refine (refAccept_any A p q rs h1.i0 h1.i1 h1.i2 (hrs w h.grown (fun e he => h.has _ (hM e (hm e he))))).mono ?_
    intro e w' he
    unfold RefAccPost at he
    rw [if_neg ha] at he
    exact ⟨he.2, he.1⟩)
  have HG := Lib.hid hG
  unfold rcB rcC at HO
  simp only at HO
  have hex : (accE A p q rs != 0) = true := by simpa using ha
  generalize accE A p q rs = ex at *
  clear hG hy hm hrs ha
  go_enter Tryd.func56, Tryd.ntmps56
  go_upto_region 24 with (first | go_big_skip | (first | go_big_skip | ((with_reducible apply wpList_loadAll HO); exact rfl; exact rfl; (repeat (with_reducible (first | exact At.head _ | apply At.tail))); infer_instance; exact rfl; exact rfl; (simp only [Act.put, List.setIfInBounds_toArray, List.set_cons_succ, List.set_cons_zero])) | ((with_reducible apply wpList_loadOne HO); exact rfl; exact rfl; (repeat (with_reducible (first | exact At.head _ | apply At.tail))); exact rfl; infer_instance; exact rfl; (simp only [Act.put, List.setIfInBounds_toArray, List.set_cons_succ, List.set_cons_zero]))) | (first | ((with_reducible apply wpList_boxAgg _ HO rfl); exact rfl; exact rfl; exact rfl; clear HO; intro b1 w HO; (simp only [Act.put, List.setIfInBounds_toArray, List.set_cons_succ, List.set_cons_zero])) | ((with_reducible apply wpList_allocAgg _ HO rfl); exact rfl; infer_instance; exact rfl; clear HO; intro b1 w HO; (simp only [Act.put, List.setIfInBounds_toArray, List.set_cons_succ, List.set_cons_zero]))))
  go_cut [8, 9] (fun x e wx => ∃ b8, x = .pointer (some ⟨b8, 0, none⟩) ∧ e = .int .i64 ex ∧ Own W wx (box b8 (.cells #[.int .i64 0, .int .i64 0, .slice none 0 0, .int .i64 0, .int .i64 0, .slice none 0 0, .int .i64 0, .int .i64 0, .slice none 0 0] 130) :: box b1 (.cells #[.int .i64 4, .int .i64 yid, .string ⟨yref.toArray⟩, .string ⟨ysku.toArray⟩, .int .i64 yq, .int .i64 ya, .int .i64 yo, .int .i64 yd, .int .i64 yc, .int .i64 p, .int .i64 q, .slice vp rs.length vc] 40) :: box r (.cells #[v, u, .int .i64 A.p0, .int .i64 A.q0, v0, .int .i64 A.p1, .int .i64 A.q1, v1, .int .i64 A.p2, .int .i64 A.q2, v2] 132) :: M))
  case first =>
        refine region_treeO (box b1 (.cells #[.int .i64 4, .int .i64 yid, .string ⟨yref.toArray⟩, .string ⟨ysku.toArray⟩, .int .i64 yq, .int .i64 ya, .int .i64 yo, .int .i64 yd, .int .i64 yc, .int .i64 p, .int .i64 q, .slice vp rs.length vc] 40) :: box r (.cells #[v, u, .int .i64 A.p0, .int .i64 A.q0, v0, .int .i64 A.p1, .int .i64 A.q1, v1, .int .i64 A.p2, .int .i64 A.q2, v2] 132) :: M) [(0, true), (1, true), (2, true), (3, true), (4, true), (5, true), (7, true), (8, true), (9, true), (12, true)] (.fork [(0, true), (1, true), (2, true), (3, true), (4, true), (5, true)] 6 10 (.fin [(7, true), (8, true), (9, true), (10, false), (11, false), (12, true)]) (.fin [(6, false), (7, true), (8, true), (9, true), (11, false), (12, true)])) HO (by with_reducible (repeat (first | exact List.Sublist.refl _ | apply List.Sublist.cons_cons | apply List.Sublist.cons))) (by kernel_rfl) (by kernel_rfl) ?_
        clear HO
        intro w HO
        refine wpS_fork ?_
        repeat (first | ((with_reducible apply wpSched_loadAll); exact rfl; exact rfl; exact rfl; (repeat (with_reducible (first | exact At.head _ | apply At.tail))); infer_instance; exact rfl; exact rfl; (simp only [Act.put, List.setIfInBounds_toArray, List.set_cons_succ, List.set_cons_zero])) | ((with_reducible apply wpSched_loadOne); exact rfl; exact rfl; exact rfl; (repeat (with_reducible (first | exact At.head _ | apply At.tail))); exact rfl; infer_instance; exact rfl; (simp only [Act.put, List.setIfInBounds_toArray, List.set_cons_succ, List.set_cons_zero])) | ((with_reducible apply wpSched_loadPart); exact rfl; exact rfl; (first | (simp [Act.eval]; rfl) | exact rfl); (repeat (with_reducible (first | exact At.head _ | apply At.tail))); infer_instance; exact (Nat.le_of_ble_eq_true rfl); (simp only [List.drop_succ_cons, List.drop_zero, List.take_succ_cons, List.take_zero]; rfl); exact rfl; (simp only [Act.put, List.setIfInBounds_toArray, List.set_cons_succ, List.set_cons_zero])) | ((with_reducible apply wpSched_pure); exact rfl; exact rfl; (intro w'; go_simp; try with_reducible rfl); (simp only [Act.put, List.setIfInBounds_toArray, List.set_cons_succ, List.set_cons_zero])))
        refine fork_end rfl rfl ?_ ?_
        · go_wp2_with ((go_at_call 74; go_must ((with_reducible refine (AC.out _ _ HO (by intro e he; repeat (first | exact he | apply List.mem_cons_of_mem))).mono ?_); rintro e w ⟨rfl, hb⟩; replace HO := HO.call hb; clear hb)))
          refine thenQ_keep (HO.heldO (by with_reducible (repeat (first | exact List.Sublist.refl _ | apply List.Sublist.cons_cons | apply List.Sublist.cons)))) ?_
          refine wpS_fin ?_
          repeat (first | ((with_reducible apply wpSched_loadAll); exact rfl; exact rfl; exact rfl; (repeat (with_reducible (first | exact At.head _ | apply At.tail))); infer_instance; exact rfl; exact rfl; (simp only [Act.put, List.setIfInBounds_toArray, List.set_cons_succ, List.set_cons_zero])) | ((with_reducible apply wpSched_loadOne); exact rfl; exact rfl; exact rfl; (repeat (with_reducible (first | exact At.head _ | apply At.tail))); exact rfl; infer_instance; exact rfl; (simp only [Act.put, List.setIfInBounds_toArray, List.set_cons_succ, List.set_cons_zero])) | ((with_reducible apply wpSched_loadPart); exact rfl; exact rfl; (first | (simp [Act.eval]; rfl) | exact rfl); (repeat (with_reducible (first | exact At.head _ | apply At.tail))); infer_instance; exact (Nat.le_of_ble_eq_true rfl); (simp only [List.drop_succ_cons, List.drop_zero, List.take_succ_cons, List.take_zero]; rfl); exact rfl; (simp only [Act.put, List.setIfInBounds_toArray, List.set_cons_succ, List.set_cons_zero])) | ((with_reducible apply wpSched_pure); exact rfl; exact rfl; (intro w'; go_simp; try with_reducible rfl); (simp only [Act.put, List.setIfInBounds_toArray, List.set_cons_succ, List.set_cons_zero])))
          ((with_reducible apply wpSched_loud); exact rfl; (first | ((with_reducible apply wpList_boxAgg _ HO rfl); exact rfl; exact rfl; exact rfl; clear HO; intro b8 w HO; (simp only [Act.put, List.setIfInBounds_toArray, List.set_cons_succ, List.set_cons_zero])) | ((with_reducible apply wpList_allocAgg _ HO rfl); exact rfl; infer_instance; exact rfl; clear HO; intro b8 w HO; (simp only [Act.put, List.setIfInBounds_toArray, List.set_cons_succ, List.set_cons_zero])) | ((with_reducible apply wpList_boxOne _ HO rfl); exact rfl; (first | (simp [Act.eval]; rfl) | exact rfl); exact rfl; exact rfl; clear HO; intro b8 w HO; (simp only [Act.put, List.setIfInBounds_toArray, List.set_cons_succ, List.set_cons_zero])) | ((with_reducible apply wpList_alloc _ HO rfl); exact rfl; infer_instance; exact rfl; exact rfl; clear HO; intro b8 w HO; (simp only [Act.put, List.setIfInBounds_toArray, List.set_cons_succ, List.set_cons_zero]))))
          refine wpList_nil (thenQ_keep (HO.heldO (by with_reducible (repeat (first | exact List.Sublist.refl _ | apply List.Sublist.cons_cons | apply List.Sublist.cons)))) ?_)
          ((with_reducible apply wpSched_loud); exact rfl; ((with_reducible apply wpList_storeAll HO); exact rfl; exact rfl; exact rfl; (repeat (with_reducible (first | exact At.head _ | apply At.tail))); infer_instance; exact rfl; exact rfl; exact rfl; exact rfl; clear HO; intro w HO; (simp only [Act.put])))
          refine wpList_nil (thenQ_keep (HO.heldO (by with_reducible (repeat (first | exact List.Sublist.refl _ | apply List.Sublist.cons_cons | apply List.Sublist.cons)))) ?_)
          repeat ((with_reducible apply wpSched_pure); exact rfl; exact rfl; (intro w'; go_simp; try with_reducible rfl); (simp only [Act.put, List.setIfInBounds_toArray, List.set_cons_succ, List.set_cons_zero]))
          refine wpSched_end ?_
          go_wp2_with fail
          go_meet
          exact ⟨b8, rfl, rfl, HO⟩
        · (first | ((with_reducible apply wpList_boxAgg _ HO rfl); exact rfl; exact rfl; exact rfl; clear HO; intro b8 w HO; (simp only [Act.put, List.setIfInBounds_toArray, List.set_cons_succ, List.set_cons_zero])) | ((with_reducible apply wpList_allocAgg _ HO rfl); exact rfl; infer_instance; exact rfl; clear HO; intro b8 w HO; (simp only [Act.put, List.setIfInBounds_toArray, List.set_cons_succ, List.set_cons_zero])) | ((with_reducible apply wpList_boxOne _ HO rfl); exact rfl; (first | (simp [Act.eval]; rfl) | exact rfl); exact rfl; exact rfl; clear HO; intro b8 w HO; (simp only [Act.put, List.setIfInBounds_toArray, List.set_cons_succ, List.set_cons_zero])) | ((with_reducible apply wpList_alloc _ HO rfl); exact rfl; infer_instance; exact rfl; exact rfl; clear HO; intro b8 w HO; (simp only [Act.put, List.setIfInBounds_toArray, List.set_cons_succ, List.set_cons_zero])))
          refine wpList_nil (thenQ_keep (HO.heldO (by with_reducible (repeat (first | exact List.Sublist.refl _ | apply List.Sublist.cons_cons | apply List.Sublist.cons)))) ?_)
          refine wpS_fin ?_
          ((with_reducible apply wpSched_loud); exact rfl; go_wp2_with ((go_at_call 74; go_must ((with_reducible refine (AC.out _ _ HO (by intro e he; repeat (first | exact he | apply List.mem_cons_of_mem))).mono ?_); rintro e w ⟨rfl, hb⟩; replace HO := HO.call hb; clear hb))))
          refine thenQ_keep (HO.heldO (by with_reducible (repeat (first | exact List.Sublist.refl _ | apply List.Sublist.cons_cons | apply List.Sublist.cons)))) ?_
          repeat (first | ((with_reducible apply wpSched_loadAll); exact rfl; exact rfl; exact rfl; (repeat (with_reducible (first | exact At.head _ | apply At.tail))); infer_instance; exact rfl; exact rfl; (simp only [Act.put, List.setIfInBounds_toArray, List.set_cons_succ, List.set_cons_zero])) | ((with_reducible apply wpSched_loadOne); exact rfl; exact rfl; exact rfl; (repeat (with_reducible (first | exact At.head _ | apply At.tail))); exact rfl; infer_instance; exact rfl; (simp only [Act.put, List.setIfInBounds_toArray, List.set_cons_succ, List.set_cons_zero])) | ((with_reducible apply wpSched_loadPart); exact rfl; exact rfl; (first | (simp [Act.eval]; rfl) | exact rfl); (repeat (with_reducible (first | exact At.head _ | apply At.tail))); infer_instance; exact (Nat.le_of_ble_eq_true rfl); (simp only [List.drop_succ_cons, List.drop_zero, List.take_succ_cons, List.take_zero]; rfl); exact rfl; (simp only [Act.put, List.setIfInBounds_toArray, List.set_cons_succ, List.set_cons_zero])) | ((with_reducible apply wpSched_pure); exact rfl; exact rfl; (intro w'; go_simp; try with_reducible rfl); (simp only [Act.put, List.setIfInBounds_toArray, List.set_cons_succ, List.set_cons_zero])))
          ((with_reducible apply wpSched_loud); exact rfl; ((with_reducible apply wpList_storeAll HO); exact rfl; exact rfl; exact rfl; (repeat (with_reducible (first | exact At.head _ | apply At.tail))); infer_instance; exact rfl; exact rfl; exact rfl; exact rfl; clear HO; intro w HO; (simp only [Act.put])))
          refine wpList_nil (thenQ_keep (HO.heldO (by with_reducible (repeat (first | exact List.Sublist.refl _ | apply List.Sublist.cons_cons | apply List.Sublist.cons)))) ?_)
          repeat ((with_reducible apply wpSched_pure); exact rfl; exact rfl; (intro w'; go_simp; try with_reducible rfl); (simp only [Act.put, List.setIfInBounds_toArray, List.set_cons_succ, List.set_cons_zero]))
          refine wpSched_end ?_
          go_wp2_with fail
          go_meet
          exact ⟨b8, rfl, rfl, HO⟩
  clear HO
  obtain ⟨b8, rfl, rfl, HO⟩ := hcut
  go_wp2_with (first | go_big_skip | (first | go_big_skip | ((with_reducible apply wpList_loadAll HO); exact rfl; exact rfl; (repeat (with_reducible (first | exact At.head _ | apply At.tail))); infer_instance; exact rfl; exact rfl; (simp only [Act.put, List.setIfInBounds_toArray, List.set_cons_succ, List.set_cons_zero])) | ((with_reducible apply wpList_loadOne HO); exact rfl; exact rfl; (repeat (with_reducible (first | exact At.head _ | apply At.tail))); exact rfl; infer_instance; exact rfl; (simp only [Act.put, List.setIfInBounds_toArray, List.set_cons_succ, List.set_cons_zero]))))
  go_ret
  first | exact ⟨rfl, ⟨r, v, u, v0, v1, v2⟩, rfl, [], HO.tail.tail, HG.out⟩ | exact ⟨rfl, ⟨r, v, u, v0, v1, v2⟩, [], rfl, HO.tail.tail, HG.out⟩

def sdC (q : Nat) (o : Int) : ByteArray := ⟨#[115]⟩ ++ ⟨(Lib.decDigits q).toArray⟩ ++ ⟨#[45]⟩ ++ ⟨(Lib.itoa o).toArray⟩
set_option maxHeartbeats 64000000 in
set_option maxRecDepth 100000 in
theorem rcApp4yes_any {W w : World} {M G : List Ent} {x : RcA} {S : CoS} {A : InS} {v9 : Value} (y : EntS) (HO : Own W w (rcB x A :: M)) (hG : RcIn W G x S A) (hm : ∀ e ∈ G, e ∈ M) (hy : EntF W G y v9) (hk : y.k = 4) (hA : InOk A) (hlen : S.P.length ≤ 99000) (ha : accE A y.p y.q y.rs = 0) :
    Calls Tryd.prog 56 #[.pointer (some ⟨x.r, 0, none⟩), .agg #[.int .i64 (y).k, .int .i64 (y).id, .string ⟨(y).ref.toArray⟩, .string ⟨(y).sku.toArray⟩, .int .i64 (y).qty, .int .i64 (y).amt, .int .i64 (y).o, .int .i64 (y).d, .int .i64 (y).c, .int .i64 (y).p, .int .i64 (y).q, v9]] w fun e w' => e = .returned (.int .i64 0) ∧ ∃ (x' : RcA) (N : List Ent), x'.r = x.r ∧ Own W w' (rcB x' (A.put y.p y.q y.rs) :: (N ++ M)) ∧ RcIn W (N ++ G) x' { S with P := rawStmt S.P (byI A (A.put y.p y.q y.rs)) y.q 60 } (A.put y.p y.q y.rs) := by
  have hu := (hy.rows w HO.grown (fun e he => HO.has _ (.tail _ (hm e he)))).slice
  obtain ⟨vp, vc, rfl, -⟩ := hu
  obtain ⟨r, v, u, v0, v1, v2⟩ := x
  obtain ⟨yk, yid, yref, ysku, yq, ya, yo, yd, yc, p, q, rs⟩ := y
  have hrs := hy.rows
  simp only at hk ha hrs
  subst hk
  have hst := okStmt_ok (accE_ok ha).1
  have hp3 : p = 0 ∨ p = 1 ∨ p = 2 := by omega
  have hB : InOk (A.put p q rs) := put_ok hA (accE_ok ha).1
  obtain ⟨qn, rfl⟩ : ∃ n : Nat, q = (n : Int) := ⟨q.toNat, by omega⟩
  have hqn : qn < 9223372036854775808 := by omega
  change Calls Tryd.prog 56 _ w fun e w' => e = .returned (.int .i64 0) ∧ ∃ (x' : RcA) (N : List Ent), x'.r = r ∧ Own W w' (rcB x' (A.put p qn rs) :: (N ++ M)) ∧ RcIn W (N ++ G) x' { S with P := rawStmt S.P (byI A (A.put p qn rs)) qn 60 } (A.put p qn rs)
  have AC := (fun (w : World) (L : List Ent) (h : Own W w L) (hM : ∀ e ∈ M, e ∈ L) => show Calls Tryd.prog 74 #[.agg #[.int .i64 (A).p0, .int .i64 (A).q0, v0, .int .i64 (A).p1, .int .i64 (A).q1, v1, .int .i64 (A).p2, .int .i64 (A).q2, v2], .agg #[.int .i64 p, .int .i64 (qn : Int), .slice vp rs.length vc]] w fun e w' => e = .returned (.tuple #[.agg #[.int .i64 ((A.put p qn rs)).p0, .int .i64 ((A.put p qn rs)).q0, (if p = 0 then (.slice vp rs.length vc) else v0), .int .i64 ((A.put p qn rs)).p1, .int .i64 ((A.put p qn rs)).q1, (if p = 1 then (.slice vp rs.length vc) else v1), .int .i64 ((A.put p qn rs)).p2, .int .i64 ((A.put p qn rs)).q2, (if p = 2 then (.slice vp rs.length vc) else v2)], .int .i64 0]) ∧ Below w.heap.size w w' from by
    have h1 := hG.at h (fun e he => hM e (hm e he))
    refine (refAccept_any A p qn rs h1.i0 h1.i1 h1.i2 (hrs w h.grown (fun e he => h.has _ (hM e (hm e he))))).mono ?_
    intro e w' he
    unfold RefAccPost at he
    rw [if_pos ha] at he
    exact ⟨he.2, he.1⟩)
  have HB := (fun (w' : World) (hb : Below W.heap.size W w') (hF : ∀ e ∈ G, e.F w') => rc_put (p := p) (q := qn) (hG w' hb hF).i0 (hG w' hb hF).i1 (hG w' hb hF).i2 (hrs w' hb hF) hp3)
  simp only at HB
  have D1 := fun w => digits24_any qn hqn w
  have hlq : (Lib.decDigits qn).length ≤ 25 := by
    have := Lib.itoa_length_le (qn : Int) (by omega) (by omega)
    rw [Lib.itoa_nonneg] at this
    omega
  have HIQ := Lib.hid (show ∀ o, sidK (qn : Int) o = sdC qn o from fun o => by unfold sidK sdC; rw [Lib.itoa_nonneg])
  generalize hw0 : (if p = 0 then (Value.slice vp rs.length vc) else v0) = w0 at *
  generalize hw1 : (if p = 1 then (Value.slice vp rs.length vc) else v1) = w1 at *
  generalize hw2 : (if p = 2 then (Value.slice vp rs.length vc) else v2) = w2 at *
  generalize hBB : A.put p qn rs = B at *
  have hBw := HB w HO.grown (fun e he => HO.has _ (.tail _ (hm e he)))
  obtain ⟨t0, d0, hs0, -⟩ := hBw.1.slice
  obtain ⟨t1, d1, hs1, -⟩ := hBw.2.1.slice
  obtain ⟨t2, d2, hs2, -⟩ := hBw.2.2.slice
  clear hw0 hw1 hw2 hBw
  subst hs0
  subst hs1
  subst hs2
  have NB0 := Lib.hid (fun (o : Int) (w : World) (L : List Ent) (h : Own W w L) (hM : ∀ e ∈ M, e ∈ L) => have h1 := HB w h.grown (fun e he => h.has _ (hM e (hm e he))); refNet_any B o h1.1 h1.2.1 h1.2.2 hB)
  have NA0 := Lib.hid (fun (o : Int) (w : World) (L : List Ent) (h : Own W w L) (hM : ∀ e ∈ M, e ∈ L) => have h1 := hG.at h (fun e he => hM e (hm e he)); refNet_any A o h1.i0 h1.i1 h1.i2 hA)
  have bB := netI_bound hB
  have bA := netI_bound hA
  have HGB := Lib.hid (show RcIn W G ⟨r, v, u, .slice t0 B.r0.length d0, .slice t1 B.r1.length d1, .slice t2 B.r2.length d2⟩ S B from fun w' hb hF => ⟨(hG w' hb hF).l, (hG w' hb hF).b, (HB w' hb hF).1, (HB w' hb hF).2.1, (HB w' hb hF).2.2⟩)
  have HM := Lib.hid hm
  replace AC := Lib.hid AC
  unfold rcB rcC at HO
  simp only at HO
  clear hG hy hm hrs ha hst hp3 HB hB hA hBB
  go_enter Tryd.func56, Tryd.ntmps56
  go_upto_region 24 with (first | go_big_skip | (first | go_big_skip | ((with_reducible apply wpList_loadAll HO); exact rfl; exact rfl; (repeat (with_reducible (first | exact At.head _ | apply At.tail))); infer_instance; exact rfl; exact rfl; (simp only [Act.put, List.setIfInBounds_toArray, List.set_cons_succ, List.set_cons_zero])) | ((with_reducible apply wpList_loadOne HO); exact rfl; exact rfl; (repeat (with_reducible (first | exact At.head _ | apply At.tail))); exact rfl; infer_instance; exact rfl; (simp only [Act.put, List.setIfInBounds_toArray, List.set_cons_succ, List.set_cons_zero]))) | (first | ((with_reducible apply wpList_boxAgg _ HO rfl); exact rfl; exact rfl; exact rfl; clear HO; intro b1 w HO; (simp only [Act.put, List.setIfInBounds_toArray, List.set_cons_succ, List.set_cons_zero])) | ((with_reducible apply wpList_allocAgg _ HO rfl); exact rfl; infer_instance; exact rfl; clear HO; intro b1 w HO; (simp only [Act.put, List.setIfInBounds_toArray, List.set_cons_succ, List.set_cons_zero]))))
  go_cut [8, 9] (fun x e wx => ∃ b8, x = .pointer (some ⟨b8, 0, none⟩) ∧ e = .int .i64 0 ∧ Own W wx (box b8 (.cells #[.int .i64 B.p0, .int .i64 B.q0, .slice t0 B.r0.length d0, .int .i64 B.p1, .int .i64 B.q1, .slice t1 B.r1.length d1, .int .i64 B.p2, .int .i64 B.q2, .slice t2 B.r2.length d2] 130) :: box b1 (.cells #[.int .i64 4, .int .i64 yid, .string ⟨yref.toArray⟩, .string ⟨ysku.toArray⟩, .int .i64 yq, .int .i64 ya, .int .i64 yo, .int .i64 yd, .int .i64 yc, .int .i64 p, .int .i64 (qn : Int), .slice vp rs.length vc] 40) :: box r (.cells #[v, u, .int .i64 A.p0, .int .i64 A.q0, v0, .int .i64 A.p1, .int .i64 A.q1, v1, .int .i64 A.p2, .int .i64 A.q2, v2] 132) :: M))
  case first =>
        refine region_treeO (box b1 (.cells #[.int .i64 4, .int .i64 yid, .string ⟨yref.toArray⟩, .string ⟨ysku.toArray⟩, .int .i64 yq, .int .i64 ya, .int .i64 yo, .int .i64 yd, .int .i64 yc, .int .i64 p, .int .i64 (qn : Int), .slice vp rs.length vc] 40) :: box r (.cells #[v, u, .int .i64 A.p0, .int .i64 A.q0, v0, .int .i64 A.p1, .int .i64 A.q1, v1, .int .i64 A.p2, .int .i64 A.q2, v2] 132) :: M) [(0, true), (1, true), (2, true), (3, true), (4, true), (5, true), (7, true), (8, true), (9, true), (12, true)] (.fork [(0, true), (1, true), (2, true), (3, true), (4, true), (5, true)] 6 10 (.fin [(7, true), (8, true), (9, true), (10, false), (11, false), (12, true)]) (.fin [(6, false), (7, true), (8, true), (9, true), (11, false), (12, true)])) HO (by with_reducible (repeat (first | exact List.Sublist.refl _ | apply List.Sublist.cons_cons | apply List.Sublist.cons))) (by kernel_rfl) (by kernel_rfl) ?_
        clear HO
        intro w HO
        refine wpS_fork ?_
        repeat (first | ((with_reducible apply wpSched_loadAll); exact rfl; exact rfl; exact rfl; (repeat (with_reducible (first | exact At.head _ | apply At.tail))); infer_instance; exact rfl; exact rfl; (simp only [Act.put, List.setIfInBounds_toArray, List.set_cons_succ, List.set_cons_zero])) | ((with_reducible apply wpSched_loadOne); exact rfl; exact rfl; exact rfl; (repeat (with_reducible (first | exact At.head _ | apply At.tail))); exact rfl; infer_instance; exact rfl; (simp only [Act.put, List.setIfInBounds_toArray, List.set_cons_succ, List.set_cons_zero])) | ((with_reducible apply wpSched_loadPart); exact rfl; exact rfl; (first | (simp [Act.eval]; rfl) | exact rfl); (repeat (with_reducible (first | exact At.head _ | apply At.tail))); infer_instance; exact (Nat.le_of_ble_eq_true rfl); (simp only [List.drop_succ_cons, List.drop_zero, List.take_succ_cons, List.take_zero]; rfl); exact rfl; (simp only [Act.put, List.setIfInBounds_toArray, List.set_cons_succ, List.set_cons_zero])) | ((with_reducible apply wpSched_pure); exact rfl; exact rfl; (intro w'; go_simp; try with_reducible rfl); (simp only [Act.put, List.setIfInBounds_toArray, List.set_cons_succ, List.set_cons_zero])))
        refine fork_end rfl rfl ?_ ?_
        · go_wp2_with ((go_at_call 74; go_must ((with_reducible refine (AC.out _ _ HO (by intro e he; repeat (first | exact he | apply List.mem_cons_of_mem))).mono ?_); rintro e w ⟨rfl, hb⟩; replace HO := HO.call hb; clear hb)))
          refine thenQ_keep (HO.heldO (by with_reducible (repeat (first | exact List.Sublist.refl _ | apply List.Sublist.cons_cons | apply List.Sublist.cons)))) ?_
          refine wpS_fin ?_
          repeat (first | ((with_reducible apply wpSched_loadAll); exact rfl; exact rfl; exact rfl; (repeat (with_reducible (first | exact At.head _ | apply At.tail))); infer_instance; exact rfl; exact rfl; (simp only [Act.put, List.setIfInBounds_toArray, List.set_cons_succ, List.set_cons_zero])) | ((with_reducible apply wpSched_loadOne); exact rfl; exact rfl; exact rfl; (repeat (with_reducible (first | exact At.head _ | apply At.tail))); exact rfl; infer_instance; exact rfl; (simp only [Act.put, List.setIfInBounds_toArray, List.set_cons_succ, List.set_cons_zero])) | ((with_reducible apply wpSched_loadPart); exact rfl; exact rfl; (first | (simp [Act.eval]; rfl) | exact rfl); (repeat (with_reducible (first | exact At.head _ | apply At.tail))); infer_instance; exact (Nat.le_of_ble_eq_true rfl); (simp only [List.drop_succ_cons, List.drop_zero, List.take_succ_cons, List.take_zero]; rfl); exact rfl; (simp only [Act.put, List.setIfInBounds_toArray, List.set_cons_succ, List.set_cons_zero])) | ((with_reducible apply wpSched_pure); exact rfl; exact rfl; (intro w'; go_simp; try with_reducible rfl); (simp only [Act.put, List.setIfInBounds_toArray, List.set_cons_succ, List.set_cons_zero])))
          ((with_reducible apply wpSched_loud); exact rfl; (first | ((with_reducible apply wpList_boxAgg _ HO rfl); exact rfl; exact rfl; exact rfl; clear HO; intro b8 w HO; (simp only [Act.put, List.setIfInBounds_toArray, List.set_cons_succ, List.set_cons_zero])) | ((with_reducible apply wpList_allocAgg _ HO rfl); exact rfl; infer_instance; exact rfl; clear HO; intro b8 w HO; (simp only [Act.put, List.setIfInBounds_toArray, List.set_cons_succ, List.set_cons_zero])) | ((with_reducible apply wpList_boxOne _ HO rfl); exact rfl; (first | (simp [Act.eval]; rfl) | exact rfl); exact rfl; exact rfl; clear HO; intro b8 w HO; (simp only [Act.put, List.setIfInBounds_toArray, List.set_cons_succ, List.set_cons_zero])) | ((with_reducible apply wpList_alloc _ HO rfl); exact rfl; infer_instance; exact rfl; exact rfl; clear HO; intro b8 w HO; (simp only [Act.put, List.setIfInBounds_toArray, List.set_cons_succ, List.set_cons_zero]))))
          refine wpList_nil (thenQ_keep (HO.heldO (by with_reducible (repeat (first | exact List.Sublist.refl _ | apply List.Sublist.cons_cons | apply List.Sublist.cons)))) ?_)
          ((with_reducible apply wpSched_loud); exact rfl; ((with_reducible apply wpList_storeAll HO); exact rfl; exact rfl; exact rfl; (repeat (with_reducible (first | exact At.head _ | apply At.tail))); infer_instance; exact rfl; exact rfl; exact rfl; exact rfl; clear HO; intro w HO; (simp only [Act.put])))
          refine wpList_nil (thenQ_keep (HO.heldO (by with_reducible (repeat (first | exact List.Sublist.refl _ | apply List.Sublist.cons_cons | apply List.Sublist.cons)))) ?_)
          repeat ((with_reducible apply wpSched_pure); exact rfl; exact rfl; (intro w'; go_simp; try with_reducible rfl); (simp only [Act.put, List.setIfInBounds_toArray, List.set_cons_succ, List.set_cons_zero]))
          refine wpSched_end ?_
          go_wp2_with fail
          go_meet
          exact ⟨b8, rfl, rfl, HO⟩
        · (first | ((with_reducible apply wpList_boxAgg _ HO rfl); exact rfl; exact rfl; exact rfl; clear HO; intro b8 w HO; (simp only [Act.put, List.setIfInBounds_toArray, List.set_cons_succ, List.set_cons_zero])) | ((with_reducible apply wpList_allocAgg _ HO rfl); exact rfl; infer_instance; exact rfl; clear HO; intro b8 w HO; (simp only [Act.put, List.setIfInBounds_toArray, List.set_cons_succ, List.set_cons_zero])) | ((with_reducible apply wpList_boxOne _ HO rfl); exact rfl; (first | (simp [Act.eval]; rfl) | exact rfl); exact rfl; exact rfl; clear HO; intro b8 w HO; (simp only [Act.put, List.setIfInBounds_toArray, List.set_cons_succ, List.set_cons_zero])) | ((with_reducible apply wpList_alloc _ HO rfl); exact rfl; infer_instance; exact rfl; exact rfl; clear HO; intro b8 w HO; (simp only [Act.put, List.setIfInBounds_toArray, List.set_cons_succ, List.set_cons_zero])))
          refine wpList_nil (thenQ_keep (HO.heldO (by with_reducible (repeat (first | exact List.Sublist.refl _ | apply List.Sublist.cons_cons | apply List.Sublist.cons)))) ?_)
          refine wpS_fin ?_
          ((with_reducible apply wpSched_loud); exact rfl; go_wp2_with ((go_at_call 74; go_must ((with_reducible refine (AC.out _ _ HO (by intro e he; repeat (first | exact he | apply List.mem_cons_of_mem))).mono ?_); rintro e w ⟨rfl, hb⟩; replace HO := HO.call hb; clear hb))))
          refine thenQ_keep (HO.heldO (by with_reducible (repeat (first | exact List.Sublist.refl _ | apply List.Sublist.cons_cons | apply List.Sublist.cons)))) ?_
          repeat (first | ((with_reducible apply wpSched_loadAll); exact rfl; exact rfl; exact rfl; (repeat (with_reducible (first | exact At.head _ | apply At.tail))); infer_instance; exact rfl; exact rfl; (simp only [Act.put, List.setIfInBounds_toArray, List.set_cons_succ, List.set_cons_zero])) | ((with_reducible apply wpSched_loadOne); exact rfl; exact rfl; exact rfl; (repeat (with_reducible (first | exact At.head _ | apply At.tail))); exact rfl; infer_instance; exact rfl; (simp only [Act.put, List.setIfInBounds_toArray, List.set_cons_succ, List.set_cons_zero])) | ((with_reducible apply wpSched_loadPart); exact rfl; exact rfl; (first | (simp [Act.eval]; rfl) | exact rfl); (repeat (with_reducible (first | exact At.head _ | apply At.tail))); infer_instance; exact (Nat.le_of_ble_eq_true rfl); (simp only [List.drop_succ_cons, List.drop_zero, List.take_succ_cons, List.take_zero]; rfl); exact rfl; (simp only [Act.put, List.setIfInBounds_toArray, List.set_cons_succ, List.set_cons_zero])) | ((with_reducible apply wpSched_pure); exact rfl; exact rfl; (intro w'; go_simp; try with_reducible rfl); (simp only [Act.put, List.setIfInBounds_toArray, List.set_cons_succ, List.set_cons_zero])))
          ((with_reducible apply wpSched_loud); exact rfl; ((with_reducible apply wpList_storeAll HO); exact rfl; exact rfl; exact rfl; (repeat (with_reducible (first | exact At.head _ | apply At.tail))); infer_instance; exact rfl; exact rfl; exact rfl; exact rfl; clear HO; intro w HO; (simp only [Act.put])))
          refine wpList_nil (thenQ_keep (HO.heldO (by with_reducible (repeat (first | exact List.Sublist.refl _ | apply List.Sublist.cons_cons | apply List.Sublist.cons)))) ?_)
          repeat ((with_reducible apply wpSched_pure); exact rfl; exact rfl; (intro w'; go_simp; try with_reducible rfl); (simp only [Act.put, List.setIfInBounds_toArray, List.set_cons_succ, List.set_cons_zero]))
          refine wpSched_end ?_
          go_wp2_with fail
          go_meet
          exact ⟨b8, rfl, rfl, HO⟩
  clear HO AC
  obtain ⟨b8, rfl, rfl, HO⟩ := hcut
  go_wp2_with (first | go_big_skip | (first | go_big_skip | ((with_reducible apply wpList_loadAll HO); exact rfl; exact rfl; (repeat (with_reducible (first | exact At.head _ | apply At.tail))); infer_instance; exact rfl; exact rfl; (simp only [Act.put, List.setIfInBounds_toArray, List.set_cons_succ, List.set_cons_zero])) | ((with_reducible apply wpList_loadOne HO); exact rfl; exact rfl; (repeat (with_reducible (first | exact At.head _ | apply At.tail))); exact rfl; infer_instance; exact rfl; (simp only [Act.put, List.setIfInBounds_toArray, List.set_cons_succ, List.set_cons_zero]))))
  go_loopw [10] (fun o wr => ∃ (k : Nat) (u' : Value) (N : List Ent), k ≤ 60 ∧ o = .int .i64 ((k : Int) + 1) ∧ RcIn W (N ++ G) ⟨r, v, u', .slice t0 B.r0.length d0, .slice t1 B.r1.length d1, .slice t2 B.r2.length d2⟩ ⟨S.L, rawStmt S.P (byI A B) qn k⟩ B ∧ (rawStmt S.P (byI A B) qn k).length ≤ S.P.length + k ∧ Own W wr (box b8 (.cells #[.int .i64 B.p0, .int .i64 B.q0, .slice t0 B.r0.length d0, .int .i64 B.p1, .int .i64 B.q1, .slice t1 B.r1.length d1, .int .i64 B.p2, .int .i64 B.q2, .slice t2 B.r2.length d2] 130) :: box b1 (.cells #[.int .i64 4, .int .i64 yid, .string ⟨yref.toArray⟩, .string ⟨ysku.toArray⟩, .int .i64 yq, .int .i64 ya, .int .i64 yo, .int .i64 yd, .int .i64 yc, .int .i64 p, .int .i64 (qn : Int), .slice vp rs.length vc] 40) :: box r (.cells #[v, u', .int .i64 A.p0, .int .i64 A.q0, v0, .int .i64 A.p1, .int .i64 A.q1, v1, .int .i64 A.p2, .int .i64 A.q2, v2] 132) :: (N ++ M))) (fun o _ => 62 - (intOf o).toNat)
  case atStart => exact ⟨0, u, [], by omega, rfl, HGB.out, Nat.le_refl _, HO⟩
  case round =>
    clear HO
    obtain ⟨k, u', N, hk, rfl, hR, hlk, HO⟩ := hrel
    by_cases hk60 : k < 60
    rotate_left
    · have hk' : k = 60 := by omega
      have hkI : ¬ ((k : Int) + 1 ≤ 60) := by omega
      subst hk'
      have HR := Lib.hid hR
      clear hR hlk hk60 NA0 NB0 D1 HIQ bB bA
      go_wp2_with (first | go_big_skip | (first | go_big_skip | ((with_reducible apply wpList_loadAll HO); exact rfl; exact rfl; (repeat (with_reducible (first | exact At.head _ | apply At.tail))); infer_instance; exact rfl; exact rfl; (simp only [Act.put, List.setIfInBounds_toArray, List.set_cons_succ, List.set_cons_zero])) | ((with_reducible apply wpList_loadOne HO); exact rfl; exact rfl; (repeat (with_reducible (first | exact At.head _ | apply At.tail))); exact rfl; infer_instance; exact rfl; (simp only [Act.put, List.setIfInBounds_toArray, List.set_cons_succ, List.set_cons_zero]))) | ((with_reducible apply wpList_storePart HO); exact rfl; exact rfl; (first | (simp [Act.eval]; rfl) | exact rfl); exact rfl; (repeat (with_reducible (first | exact At.head _ | apply At.tail))); infer_instance; exact rfl; exact (by simp); (simp only [putL, List.drop_succ_cons, List.drop_zero, List.take_succ_cons, List.take_zero, List.length_cons, List.length_nil, List.cons_append, List.nil_append, List.append_nil, Nat.reduceAdd]; rfl); exact rfl; exact rfl; clear HO; intro w HO; (simp only [Act.put])))
      go_ret
      have h6 := HO.perm ((List.perm_append_comm (l₁ := [_, _]) (l₂ := [_])).append_right (N ++ M))
      simp only [List.cons_append, List.nil_append] at h6
      have h8 := fun (a b : Ent) => HR.out.mono (H := (a :: b :: N) ++ G) (fun e he => by
        rcases List.mem_append.1 he with he | he
        · exact List.mem_append_left _ (List.mem_cons_of_mem _ (List.mem_cons_of_mem _ he))
        · exact List.mem_append_right _ he)
      exact ⟨rfl, ⟨r, v, u', .slice t0 B.r0.length d0, .slice t1 B.r1.length d1, .slice t2 B.r2.length d2⟩, rfl, _ :: _ :: N, h6, h8 _ _⟩
    · have hkI : (k : Int) + 1 ≤ 60 := by omega
      have NA := Lib.hid (NA0.out ((k : Int) + 1))
      have NB := Lib.hid (NB0.out ((k : Int) + 1))
      have D2 : ∀ w, Calls Tryd.prog 76 #[.int .i64 ((k : Int) + 1)] w fun e w' => e = .returned (.string ⟨(Lib.decDigits (k + 1)).toArray⟩) ∧ Below w.heap.size w w' := fun w => digits24_any (k + 1) (by omega) w
      have hl2 : (Lib.decDigits (k + 1)).length ≤ 25 := by
        have := Lib.itoa_length_le ((k + 1 : Nat) : Int) (by omega) (by omega)
        rw [Lib.itoa_nonneg] at this
        omega
      have z1 : (⟨(Lib.decDigits qn).toArray⟩ : ByteArray).size ≤ 25 := by rw [str_size]; exact hlq
      have z2 : (⟨(Lib.decDigits (k + 1)).toArray⟩ : ByteArray).size ≤ 25 := by rw [str_size]; exact hl2
      have HS := Lib.hid (show sidK (qn : Int) ((k : Int) + 1) = (⟨#[115]⟩ : ByteArray) ++ ⟨(Lib.decDigits qn).toArray⟩ ++ ⟨#[45]⟩ ++ ⟨(Lib.decDigits (k + 1)).toArray⟩ from (HIQ.out _).trans (by unfold sdC; rw [show ((k : Int) + 1) = ((k + 1 : Nat) : Int) from rfl, Lib.itoa_nonneg]))
      have hnx := Lib.hid (show rawStmt S.P (byI A B) qn (k + 1) = if netI B ((k : Int) + 1) - netI A ((k : Int) + 1) = 0 then rawStmt S.P (byI A B) qn k else rawStmt S.P (byI A B) qn k ++ [stPst qn ((k : Int) + 1) (netI B ((k : Int) + 1) - netI A ((k : Int) + 1))] from rfl)
      have HSP := Lib.hid (fun x => show stPst qn ((k : Int) + 1) x = if x < 0 then ⟨sidK qn ((k : Int) + 1), (k : Int) + 1, 1, 2, -x⟩ else ⟨sidK qn ((k : Int) + 1), (k : Int) + 1, 2, 1, x⟩ from rfl)
      have bB1 := bB ((k : Int) + 1)
      have bA1 := bA ((k : Int) + 1)
      have HR := Lib.hid hR
      have HMN := Lib.hid (show ∀ e ∈ N ++ G, e ∈ N ++ M from fun e he => by
        rcases List.mem_append.1 he with he | he
        · exact List.mem_append_left _ he
        · exact List.mem_append_right _ (HM.out e he))
      clear NA0 NB0 bB bA HIQ hR hlq hl2
      generalize hPy : rawStmt S.P (byI A B) qn (k + 1) = Py at *
      generalize rawStmt S.P (byI A B) qn k = Px at *
      generalize netI B ((k : Int) + 1) = nb at *
      generalize netI A ((k : Int) + 1) = na at *
      generalize sidK qn ((k : Int) + 1) = id9 at *
      generalize (⟨(Lib.decDigits qn).toArray⟩ : ByteArray) = x1 at *
      generalize (⟨(Lib.decDigits (k + 1)).toArray⟩ : ByteArray) = x2 at *
      have q1 : ((⟨#[115]⟩ : ByteArray) ++ x1).size = 1 + x1.size := by rw [ByteArray.size_append]; rfl
      have q2 : ((⟨#[115]⟩ : ByteArray) ++ x1 ++ ⟨#[45]⟩).size = 1 + x1.size + 1 := by rw [ByteArray.size_append, q1]; rfl
      have a1 : ¬ (9223372036854775807 < (⟨#[115]⟩ : ByteArray).size + x1.size) := by show ¬ (9223372036854775807 < 1 + x1.size); omega
      have a1' : ¬ (9223372036854775807 < 1 + x1.size) := by omega
      have a2 : ¬ (9223372036854775807 < ((⟨#[115]⟩ : ByteArray) ++ x1).size + (⟨#[45]⟩ : ByteArray).size) := by rw [q1]; show ¬ (9223372036854775807 < 1 + x1.size + 1); omega
      have a2' : ¬ (9223372036854775807 < 1 + x1.size + 1) := by omega
      have a3 : ¬ (9223372036854775807 < ((⟨#[115]⟩ : ByteArray) ++ x1 ++ ⟨#[45]⟩).size + x2.size) := by rw [q2]; omega
      have a3' : ¬ (9223372036854775807 < 1 + x1.size + 1 + x2.size) := by omega
      have hwr : IntKind.i64.wrap (nb - na) = nb - na := wrap_in (inI_iff.2 (by omega))
      have hlx : Px.length ≤ 100000 := by omega
      have hp2 := fun (a b X : Ent) => (List.perm_append_comm (l₁ := [a, b]) (l₂ := [X])).append_right (N ++ M)
      have PO := Lib.hid (fun (d c' am : Int) (w : World) (a b : Ent) (h : Own W w (a :: b :: rcB ⟨r, v, u', v0, v1, v2⟩ A :: (N ++ M))) => rcPost_any (P := Px) id9 ((k : Int) + 1) d c' am (h.perm (hp2 a b _)) (fun w' L' h hM => (HR.out.at h (fun e he => hM e (.tail _ (.tail _ (HMN.out e he))))).b) hlx)
      go_upto_region 30 with (first | go_big_skip | (first | go_big_skip | ((with_reducible apply wpList_loadAll HO); exact rfl; exact rfl; (repeat (with_reducible (first | exact At.head _ | apply At.tail))); infer_instance; exact rfl; exact rfl; (simp only [Act.put, List.setIfInBounds_toArray, List.set_cons_succ, List.set_cons_zero])) | ((with_reducible apply wpList_loadOne HO); exact rfl; exact rfl; (repeat (with_reducible (first | exact At.head _ | apply At.tail))); exact rfl; infer_instance; exact rfl; (simp only [Act.put, List.setIfInBounds_toArray, List.set_cons_succ, List.set_cons_zero]))))
      refine region_own HO (by kernel_rfl) (by kernel_rfl) ?_
      clear HO
      intro F HF
      repeat (first | (first | go_big_quiet_skip | ((with_reducible apply wpQuiet_loadAll HF); exact rfl; exact rfl; (repeat (with_reducible (first | exact At.head _ | apply At.tail))); infer_instance; exact rfl; exact rfl; (simp only [Act.put, List.setIfInBounds_toArray, List.set_cons_succ, List.set_cons_zero])) | ((with_reducible apply wpQuiet_loadOne HF); exact rfl; exact rfl; (repeat (with_reducible (first | exact At.head _ | apply At.tail))); exact rfl; infer_instance; exact rfl; (simp only [Act.put, List.setIfInBounds_toArray, List.set_cons_succ, List.set_cons_zero])) | ((with_reducible apply wpQuiet_loadPart HF); exact rfl; exact rfl; (repeat (with_reducible (first | exact At.head _ | apply At.tail))); infer_instance; exact (Nat.le_of_ble_eq_true rfl); (simp only [List.drop_succ_cons, List.drop_zero, List.take_succ_cons, List.take_zero]; rfl); exact rfl; (simp only [Act.put, List.setIfInBounds_toArray, List.set_cons_succ, List.set_cons_zero]))) | go_big_quiet_step ((go_at_call 75; first | (with_reducible exact calls_fam HF (NB.out _ _ (HF.own _) (by intro e he; exact List.mem_cons_of_mem _ (List.mem_cons_of_mem _ (List.mem_cons_of_mem _ (List.mem_append_right _ he)))))) | (with_reducible exact calls_fam HF (NA.out _ _ (HF.own _) (by intro e he; exact List.mem_cons_of_mem _ (List.mem_cons_of_mem _ (List.mem_cons_of_mem _ (List.mem_append_right _ he)))))))))
      refine wpQuiet_nil ?_
      intro x
      have HO := HF.own x
      clear HF
      generalize F x = w at *
      clear x F
      by_cases c1 : 0 < nb - na
      · rw [if_neg (by omega), HSP.out, if_neg (by omega)] at hnx
        replace hPy := Lib.hid (hPy.trans hnx.out)
        go_wp2_with (first | go_big_skip | (first | go_big_skip | ((with_reducible apply wpList_loadAll HO); exact rfl; exact rfl; (repeat (with_reducible (first | exact At.head _ | apply At.tail))); infer_instance; exact rfl; exact rfl; (simp only [Act.put, List.setIfInBounds_toArray, List.set_cons_succ, List.set_cons_zero])) | ((with_reducible apply wpList_loadOne HO); exact rfl; exact rfl; (repeat (with_reducible (first | exact At.head _ | apply At.tail))); exact rfl; infer_instance; exact rfl; (simp only [Act.put, List.setIfInBounds_toArray, List.set_cons_succ, List.set_cons_zero]))) | ((with_reducible apply wpList_loadPart HO); exact rfl; exact rfl; (repeat (with_reducible (first | exact At.head _ | apply At.tail))); infer_instance; exact (Nat.le_of_ble_eq_true rfl); (simp only [List.drop_succ_cons, List.drop_zero, List.take_succ_cons, List.take_zero]; rfl); exact rfl; (simp only [Act.put, List.setIfInBounds_toArray, List.set_cons_succ, List.set_cons_zero])) | (go_at_call 76; first | ((with_reducible refine (D1 _).mono ?_); (rintro e w ⟨rfl, hb⟩; replace HO := HO.call hb; clear hb)) | ((with_reducible refine (D2 _).mono ?_); (rintro e w ⟨rfl, hb⟩; replace HO := HO.call hb; clear hb))) | (go_at_call 77; rw [← HS.out]; go_must ((have h9 := PO.out 2 1 (nb - na) _ _ _ HO); (with_reducible refine h9.mono ?_); clear h9 HO; rintro e w ⟨rfl, u9, HO⟩)))
        go_roundw
        case rel =>
          have h6 := HO.perm ((List.perm_append_comm (l₁ := [_, _]) (l₂ := [_, _])).append_right (N ++ M))
          simp only [List.cons_append, List.nil_append] at h6
          exact ⟨k + 1, u9, row 111 5 u9 ((Px ++ [(⟨id9, (k : Int) + 1, 2, 1, nb - na⟩ : Pst)]).map pstC) :: N, by omega, by go_num, by rw [hPy.out]; exact HR.out.setP u9 (Px ++ [(⟨id9, (k : Int) + 1, 2, 1, nb - na⟩ : Pst)]) _, by rw [hPy.out]; simp; omega, h6⟩
        case measure => simp [intOf] <;> omega
      by_cases c2 : nb - na < 0
      · rw [if_neg (by omega), HSP.out, if_pos (by omega)] at hnx
        replace hPy := Lib.hid (hPy.trans hnx.out)
        go_wp2_with (first | go_big_skip | (first | go_big_skip | ((with_reducible apply wpList_loadAll HO); exact rfl; exact rfl; (repeat (with_reducible (first | exact At.head _ | apply At.tail))); infer_instance; exact rfl; exact rfl; (simp only [Act.put, List.setIfInBounds_toArray, List.set_cons_succ, List.set_cons_zero])) | ((with_reducible apply wpList_loadOne HO); exact rfl; exact rfl; (repeat (with_reducible (first | exact At.head _ | apply At.tail))); exact rfl; infer_instance; exact rfl; (simp only [Act.put, List.setIfInBounds_toArray, List.set_cons_succ, List.set_cons_zero]))) | ((with_reducible apply wpList_loadPart HO); exact rfl; exact rfl; (repeat (with_reducible (first | exact At.head _ | apply At.tail))); infer_instance; exact (Nat.le_of_ble_eq_true rfl); (simp only [List.drop_succ_cons, List.drop_zero, List.take_succ_cons, List.take_zero]; rfl); exact rfl; (simp only [Act.put, List.setIfInBounds_toArray, List.set_cons_succ, List.set_cons_zero])) | (go_at_call 76; first | ((with_reducible refine (D1 _).mono ?_); (rintro e w ⟨rfl, hb⟩; replace HO := HO.call hb; clear hb)) | ((with_reducible refine (D2 _).mono ?_); (rintro e w ⟨rfl, hb⟩; replace HO := HO.call hb; clear hb))) | (go_at_call 77; rw [← HS.out]; go_must ((have h9 := PO.out 1 2 (-(nb - na)) _ _ _ HO); (with_reducible refine h9.mono ?_); clear h9 HO; rintro e w ⟨rfl, u9, HO⟩)))
        go_roundw
        case rel =>
          have h6 := HO.perm ((List.perm_append_comm (l₁ := [_, _]) (l₂ := [_, _])).append_right (N ++ M))
          simp only [List.cons_append, List.nil_append] at h6
          exact ⟨k + 1, u9, row 111 5 u9 ((Px ++ [(⟨id9, (k : Int) + 1, 1, 2, -(nb - na)⟩ : Pst)]).map pstC) :: N, by omega, by go_num, by rw [hPy.out]; exact HR.out.setP u9 (Px ++ [(⟨id9, (k : Int) + 1, 1, 2, -(nb - na)⟩ : Pst)]) _, by rw [hPy.out]; simp; omega, h6⟩
        case measure => simp [intOf] <;> omega
      rw [if_pos (by omega)] at hnx
      replace hPy := Lib.hid (hPy.trans hnx.out)
      go_wp2_with (first | go_big_skip | (first | go_big_skip | ((with_reducible apply wpList_loadAll HO); exact rfl; exact rfl; (repeat (with_reducible (first | exact At.head _ | apply At.tail))); infer_instance; exact rfl; exact rfl; (simp only [Act.put, List.setIfInBounds_toArray, List.set_cons_succ, List.set_cons_zero])) | ((with_reducible apply wpList_loadOne HO); exact rfl; exact rfl; (repeat (with_reducible (first | exact At.head _ | apply At.tail))); exact rfl; infer_instance; exact rfl; (simp only [Act.put, List.setIfInBounds_toArray, List.set_cons_succ, List.set_cons_zero]))) | ((with_reducible apply wpList_loadPart HO); exact rfl; exact rfl; (repeat (with_reducible (first | exact At.head _ | apply At.tail))); infer_instance; exact (Nat.le_of_ble_eq_true rfl); (simp only [List.drop_succ_cons, List.drop_zero, List.take_succ_cons, List.take_zero]; rfl); exact rfl; (simp only [Act.put, List.setIfInBounds_toArray, List.set_cons_succ, List.set_cons_zero])) | (go_at_call 76; first | ((with_reducible refine (D1 _).mono ?_); (rintro e w ⟨rfl, hb⟩; replace HO := HO.call hb; clear hb)) | ((with_reducible refine (D2 _).mono ?_); (rintro e w ⟨rfl, hb⟩; replace HO := HO.call hb; clear hb))))
      go_roundw
      case rel =>
        exact ⟨k + 1, u', N, by omega, by go_num, by rw [hPy.out]; exact HR.out, by rw [hPy.out]; omega, HO⟩
      case measure => simp [intOf] <;> omega

/-- An entry: what the document's core comes to is what the program's does. -/
theorem rcApply_any {W w : World} {M G : List Ent} {x : RcA} {S : CoS} {A : InS} {v9 : Value} (y : EntS) (HO : Own W w (rcB x A :: M)) (hG : RcIn W G x S A) (hm : ∀ e ∈ G, e ∈ M) (hy : EntF W G y v9) (hI : CoInv S A) (hids : idsOk S.L) (hlen : S.P.length ≤ 99000) :
    Calls Tryd.prog 56 #[.pointer (some ⟨x.r, 0, none⟩), .agg #[.int .i64 (y).k, .int .i64 (y).id, .string ⟨(y).ref.toArray⟩, .string ⟨(y).sku.toArray⟩, .int .i64 (y).qty, .int .i64 (y).amt, .int .i64 (y).o, .int .i64 (y).d, .int .i64 (y).c, .int .i64 (y).p, .int .i64 (y).q, v9]] w fun e w' => e = .returned (.int .i64 (applyE S A y)) ∧ ∃ (x' : RcA) (N : List Ent), x'.r = x.r ∧ Own W w' (rcB x' (applyI A y) :: (N ++ M)) ∧ RcIn W (N ++ G) x' (applyS S A y) (applyI A y) := by
  rw [← (coInv_step hI hlen y).1]
  rcases five y.k with hk | hk | hk | hk | ⟨h1, h2, h3, h4⟩
  · rw [show applyE S A y = placeE S.L y.ord by unfold applyE; rw [if_pos hk], show rawS S A y = { S with L := placeL S.L y.ord } by unfold rawS; rw [if_pos hk], show applyI A y = A by unfold applyI; rw [if_neg (by rw [hk]; simp)]]
    exact rcApp1_any y HO hG hm hy hI.ok hk
  · rw [show applyE S A y = stopE S.L y.o by unfold applyE; rw [if_neg (by omega), if_pos hk], show rawS S A y = { S with L := stopL S.L y.o } by unfold rawS; rw [if_neg (by omega), if_pos hk], show applyI A y = A by unfold applyI; rw [if_neg (by rw [hk]; simp)]]
    exact rcApp2_any y HO hG hm hy hI.ok hids hk
  · rw [show applyE S A y = replyE S.L y.o y.d y.c by unfold applyE; rw [if_neg (by omega), if_neg (by omega), if_pos hk], show rawS S A y = rawReplyS S y.o y.d y.c by unfold rawS; rw [if_neg (by omega), if_neg (by omega), if_pos hk], show applyI A y = A by unfold applyI; rw [if_neg (by rw [hk]; simp)]]
    exact rcApp3_any y HO hG hm hy hI.ok hids hlen hk
  · rw [show applyE S A y = accE A y.p y.q y.rs by unfold applyE; rw [if_neg (by omega), if_neg (by omega), if_neg (by omega), if_pos hk]]
    by_cases ha : accE A y.p y.q y.rs = 0
    · rw [show rawS S A y = { S with P := rawStmt S.P (byI A (A.put y.p y.q y.rs)) y.q 60 } by unfold rawS; rw [if_neg (by omega), if_neg (by omega), if_neg (by omega), if_pos hk, if_pos ha], show applyI A y = A.put y.p y.q y.rs by unfold applyI; rw [if_pos ⟨hk, ha⟩], ha]
      exact rcApp4yes_any y HO hG hm hy hk hI.inok hlen ha
    · rw [show rawS S A y = S by unfold rawS; rw [if_neg (by omega), if_neg (by omega), if_neg (by omega), if_pos hk, if_neg ha], show applyI A y = A by unfold applyI; rw [if_neg (fun h => ha h.2)]]
      exact rcApp4no_any y HO hG hm hy hk ha
  · rw [show applyE S A y = 2 by unfold applyE; rw [if_neg h1, if_neg h2, if_neg h3, if_neg h4], show rawS S A y = S by unfold rawS; rw [if_neg h1, if_neg h2, if_neg h3, if_neg h4], show applyI A y = A by unfold applyI; rw [if_neg (fun h => h4 h.1)]]
    exact rcApp5_any y HO hG hm hy h1 h2 h3 h4
end Go.Proofs.YtibabfedpdoofaaDoor
namespace Go.Proofs.YtibabfedpdoofaaDoor
open Go.RowKit Go.Own

end Go.Proofs.YtibabfedpdoofaaDoor
namespace Go.Proofs.YtibabfedpdoofaaDoor
open Go.RowKit Go.Own

/-- An entry with its rows' slice. -/
structure EntI where
  x : EntS
  v : Value
def entC (e : EntI) : List Value := [.int .i64 e.x.k, .int .i64 e.x.id, .string ⟨e.x.ref.toArray⟩, .string ⟨e.x.sku.toArray⟩, .int .i64 e.x.qty, .int .i64 e.x.amt, .int .i64 e.x.o, .int .i64 e.x.d, .int .i64 e.x.c, .int .i64 e.x.p, .int .i64 e.x.q, e.v]
end Go.Proofs.YtibabfedpdoofaaDoor
namespace Go.Proofs.YtibabfedpdoofaaDoor
open Go.RowKit Go.Own Go.Maps

/-- Entries that stand in old memory, or in some pieces of one's own. -/
structure EntsIn (W : World) (G : List Ent) (v : Value) (es : List EntI) : Prop where
  l : ∀ w' : World, Below W.heap.size W w' → (∀ e ∈ G, e.F w') → IsL w' 12 v (es.map entC)
  r : ∀ e ∈ es, EntF W G e.x e.v
theorem sub_tail (X Y : List Ent) (Z : Ent) (N M : List Ent) : M.Sublist (X ++ (Y ++ (Z :: (N ++ M)))) :=
  (((List.sublist_append_right N M).cons Z).trans (List.sublist_append_right Y _)).trans (List.sublist_append_right X _)
theorem perm_out (X Y : List Ent) (Z : Ent) (L : List Ent) : (X ++ (Y ++ (Z :: L))).Perm (Z :: (X ++ (Y ++ L))) := by
  have h := List.perm_middle (a := Z) (l₁ := X ++ Y) (l₂ := L)
  simpa [List.append_assoc] using h
theorem perm_in (X Y : List Ent) (Z : Ent) (N' N M : List Ent) : (Z :: (N' ++ (X ++ (Y ++ (N ++ M))))).Perm (X ++ (Y ++ (Z :: ((N' ++ N) ++ M)))) := by
  have h1 : (N' ++ ((X ++ Y) ++ (N ++ M))).Perm ((X ++ Y) ++ (N' ++ (N ++ M))) := List.perm_append_comm_assoc _ _ _
  have h2 := (h1.cons Z).trans (List.perm_middle (a := Z) (l₁ := X ++ Y) (l₂ := N' ++ (N ++ M))).symm
  simpa [List.append_assoc] using h2

set_option maxHeartbeats 16000000 in
set_option maxRecDepth 100000 in
theorem cored_any {W w : World} {M G : List Ent} {v : Value} {es : List EntI} (HO : Own W w M) (hm : ∀ e ∈ G, e ∈ M) (hE : EntsIn W G v es) (hL : LaidE W) (hlen : es.length ≤ 1000) :
    Calls Tryd.prog 37 #[v] w fun e w' => ∃ (a : CoA) (i : InA) (x : RcA) (N : List Ent), e = .returned (.tuple #[.pointer (some ⟨a.c, 0, none⟩), .pointer (some ⟨x.r, 0, none⟩), .bool true]) ∧
      Own W w' (coPs a (coreOf (es.map (·.x))).1 i (coreOf (es.map (·.x))).2 ++ (inPs i (coreOf (es.map (·.x))).2 ++ (rcB x (coreOf (es.map (·.x))).2 :: (N ++ M)))) ∧ RcIn W (N ++ G) x (coreOf (es.map (·.x))).1 (coreOf (es.map (·.x))).2 := by
  obtain ⟨sp, sc, rfl, hmx⟩ := (hE.l w HO.grown (fun e he => HO.has _ (hm e he))).slice
  rw [List.length_map] at hmx hE ⊢
  have HE := Lib.hid hE
  have HM := Lib.hid hm
  clear hE hm
  go_enter Tryd.func37, Tryd.ntmps37
  go_wp2_with (first | (go_at_call 9; go_must ((with_reducible refine (coNew_any _).mono ?_); rintro e w ⟨a, rfl, HO1⟩; replace HO := HO.lift HO1; clear HO1)) | (go_at_call 55; go_must ((with_reducible refine (rcNew_any _).mono ?_); rintro e w ⟨r, rfl, HO1⟩; replace HO := HO.lift HO1; clear HO1)))
  have HI : Own W w (coPs a ⟨[], []⟩ inNil zeroI ++ (inPs inNil zeroI ++ (rcB (rcNil r) zeroI :: ([] ++ M)))) := by
    have h1 := HO.perm (perm_out (coPs a ⟨[], []⟩ inNil zeroI) (inPs inNil zeroI) (rcB (rcNil r) zeroI) M).symm
    exact h1
  clear HO
  go_loopw [7] (fun iv wr => ∃ (j : Nat) (a' : CoA) (i' : InA) (x' : RcA) (N : List Ent), j ≤ es.length ∧ iv = .int .i64 (j : Int) ∧ a'.c = a.c ∧ x'.r = r ∧ RcIn W (N ++ G) x' (coreOf ((es.map (·.x)).take j)).1 (coreOf ((es.map (·.x)).take j)).2 ∧
    Own W wr (coPs a' (coreOf ((es.map (·.x)).take j)).1 i' (coreOf ((es.map (·.x)).take j)).2 ++ (inPs i' (coreOf ((es.map (·.x)).take j)).2 ++ (rcB x' (coreOf ((es.map (·.x)).take j)).2 :: (N ++ M))))) (fun iv _ => es.length - (intOf iv).toNat)
  case atStart => exact ⟨0, a, inNil, rcNil r, [], by omega, rfl, rfl, rfl, (rcNil_in W r).mono (by simp), HI⟩
  case round =>
    clear HI
    obtain ⟨j, a', i', x', N, hj, rfl, hac, hxr, hR, HO⟩ := hrel
    by_cases hjl : j < es.length
    · have hjI : (j : Int) < (es.length : Int) := by omega
      have hml : es.length ≤ 9223372036854775807 := by omega
      obtain ⟨q, rfl⟩ : ∃ q, sp = some q := by
        rcases sp with _ | q
        · have := (HE.out.l wr HO.grown (fun e he => HO.has e (by have h9 := HM.out e he; simp [h9]))).at (by simp; omega)
          obtain ⟨_, _, h, _⟩ := this
          cases h
        · exact ⟨q, rfl⟩
      have HI := Lib.hid (fun (w' : World) (hb : Below W.heap.size W w') (hF : ∀ e ∈ M, e.F w') => isL_cell (HE.out.l w' hb (fun e he => hF e (HM.out e he))) (j := j) (by simpa using hjl))
      simp only [List.getElem_map] at HI
      have hent := HE.out.r _ (List.getElem_mem hjl)
      obtain ⟨ok1, ok2, ok3⟩ := coreOf_ok (es.map (·.x)) j (by simp; omega)
      have inv := coreOf_inv (es.map (·.x)) (by simpa using hlen) j (by simp; omega)
      have ids := coreOf_ids (es.map (·.x)) j (by simp; omega)
      have hsn := coreOf_snoc (es.map (·.x)) (j := j) (by simpa using hjl)
      rw [List.getElem_map] at hsn
      have hS : (coreOf ((es.map (·.x)).take (j + 1))).1 = applyS (coreOf ((es.map (·.x)).take j)).1 (coreOf ((es.map (·.x)).take j)).2 es[j].x := by rw [hsn]
      have hA : (coreOf ((es.map (·.x)).take (j + 1))).2 = applyI (coreOf ((es.map (·.x)).take j)).2 es[j].x := by rw [hsn]
      have hMG : ∀ e ∈ G, e ∈ rcB x' (coreOf ((es.map (·.x)).take j)).2 :: (N ++ M) := fun e he => List.mem_cons_of_mem _ (List.mem_append_right _ (HM.out e he))
      generalize es[j] = y at *
      obtain ⟨x, u⟩ := y
      dsimp only at hS hA hent
      unfold entC at HI
      have AP := Lib.hid (fun (w : World) (h : Own W w (coPs a' (coreOf ((es.map (·.x)).take j)).1 i' (coreOf ((es.map (·.x)).take j)).2 ++ (inPs i' (coreOf ((es.map (·.x)).take j)).2 ++ (rcB x' (coreOf ((es.map (·.x)).take j)).2 :: (N ++ M))))) => coApply_any x h (hent.into hMG) ok3 ok1 (by omega) hL)
      have RP := Lib.hid (fun (w : World) (X Y : List Ent) (h : Own W w (X ++ (Y ++ (rcB x' (coreOf ((es.map (·.x)).take j)).2 :: (N ++ M))))) => rcApply_any (G := N ++ G) (M := X ++ (Y ++ (N ++ M))) x (h.perm (perm_out X Y _ _)) hR (fun e he => by
        rcases List.mem_append.1 he with he | he
        · exact List.mem_append_right _ (List.mem_append_right _ (List.mem_append_left _ he))
        · exact List.mem_append_right _ (List.mem_append_right _ (List.mem_append_right _ (HM.out e he)))) ⟨fun w' hb hF => hent.rows w' hb (fun e he => hF e (List.mem_append_right _ he)), hent.ref, hent.sku, hent.o⟩ inv ids (by omega))
      rw [← hS, ← hA, hac] at AP
      rw [← hS, ← hA, hxr] at RP
      generalize applyE (coreOf ((es.map (·.x)).take j)).1 (coreOf ((es.map (·.x)).take j)).2 x = ex at *
      clear hS hA hsn ok1 ok2 ok3 hent inv ids hMG hR
      go_upto_region 5 with fail
      refine region_schedO (M) [(0, true), (1, true), (2, true), (3, true), (4, true), (6, true), (7, true), (8, true), (9, true), (10, true), (5, false), (11, false), (12, true)] HO (sub_tail _ _ _ _ _) (by kernel_rfl) (by kernel_rfl) ?_
      clear HO
      intro w HO
      repeat (first | ((with_reducible apply wpHeld_loadAt); exact rfl; exact rfl; exact rfl; exact (fun w' hw => HI.out w' (hw _ List.mem_cons_self) (fun e he => hw _ (.tail _ he))); infer_instance; exact rfl; exact rfl; (simp only [Act.put, List.setIfInBounds_toArray, List.set_cons_succ, List.set_cons_zero])) | ((with_reducible apply wpHeld_pure); exact rfl; exact rfl; (intro w'; go_simp; try with_reducible rfl); (simp only [Act.put, List.setIfInBounds_toArray, List.set_cons_succ, List.set_cons_zero])))
      ((with_reducible apply wpHeld_loud); exact rfl; go_wp2_with ((go_at_call 10; go_must ((with_reducible refine (AP.out _ HO).mono ?_); clear AP HO; rintro e w ⟨rfl, u', v9, i9, -, HO⟩))))
      refine ⟨HO.heldO (sub_tail _ _ _ _ _), ?_⟩
      ((with_reducible apply wpHeld_loud); exact rfl; go_wp2_with ((go_at_call 56; go_must ((have h9 := RP.out _ _ _ HO); (with_reducible refine h9.mono ?_); clear h9 HO; rintro e w ⟨rfl, x9, N9, hr9, HO, hR9⟩))))
      replace HO := HO.perm (perm_in _ _ _ _ _ _)
      refine ⟨HO.heldO (sub_tail _ _ _ _ _), ?_⟩
      ((with_reducible apply wpHeld_pure); exact rfl; exact rfl; (intro w'; go_simp; try with_reducible rfl); (simp only [Act.put, List.setIfInBounds_toArray, List.set_cons_succ, List.set_cons_zero]))
      refine wpHeld_end ?_
      go_wp2_with fail
      go_roundw
      case rel => exact ⟨j + 1, ⟨a.c, v9, a'.k, u', a'.pm, a'.bm⟩, i9, x9, N9 ++ N, by omega, by go_num, rfl, hr9, by rw [List.append_assoc]; exact hR9, HO⟩
      case measure => simp [intOf] <;> omega
    · obtain rfl : j = es.length := by omega
      rw [show es.length = (es.map (·.x)).length by simp, List.take_length] at HO hR
      have HR := Lib.hid hR
      clear hR
      subst hxr
      go_wp2_with fail
      go_ret3
      exact ⟨⟨a.c, a'.v, a'.k, a'.u, a'.pm, a'.bm⟩, i', x', N, rfl, by rw [← hac]; exact HO, HR.out⟩
end Go.Proofs.YtibabfedpdoofaaDoor
namespace Go.Own
open Go.RowKit

theorem fold_mid : ∀ (l : List Value) (i off : Nat) (z : List Value), off + i + l.length ≤ z.length →
    (l.zipIdx i).foldl (fun (cs : Array Value) (p : Value × Nat) => cs.setIfInBounds (off + p.2) p.1) z.toArray = (z.take (off + i) ++ l ++ z.drop (off + i + l.length)).toArray
  | [], i, off, z, h => by simp
  | x :: l, i, off, z, h => by
    simp only [List.length_cons] at h
    rw [List.zipIdx_cons, List.foldl_cons]
    have e : (z.toArray.setIfInBounds (off + i) x) = (z.set (off + i) x).toArray := by simp
    rw [e, fold_mid l (i + 1) off (z.set (off + i) x) (by simp; omega)]
    congr 1
    rw [← Nat.add_assoc, List.take_succ_eq_append_getElem (by simp; omega), List.take_set_of_le (Nat.le_refl _), List.drop_set_of_lt (by omega)]
    simp only [List.getElem_set_self, List.append_assoc, List.singleton_append, List.length_cons]
    rw [show off + i + 1 + l.length = off + i + (l.length + 1) by omega]
def partsOf : List (List Value) → Nat → List (Nat × Value)
  | [], _ => []
  | l :: ls, i => (i, .agg l.toArray) :: partsOf ls (i + 1)
theorem fill_many {k : Nat} : ∀ (ls : List (List Value)) (i : Nat) (pre suf : List Value), pre.length = i * k → suf.length = ls.length * k → (∀ l ∈ ls, l.length = k) →
    Instr.fill (fun i => some (i * k, k)) (pre ++ suf).toArray (partsOf ls i) = some (pre ++ ls.flatten).toArray
  | [], i, pre, suf, h1, h2, _ => by
    have : suf = [] := List.length_eq_zero_iff.1 (by simpa using h2)
    subst this
    simp [partsOf, Instr.fill]
  | l :: ls, i, pre, suf, h1, h2, h3 => by
    have hl := h3 l List.mem_cons_self
    have h2' : suf.length = ls.length * k + k := by rw [h2, List.length_cons, Nat.succ_mul]
    unfold partsOf Instr.fill
    have hsz : (Value.agg l.toArray).cells = l.toArray := rfl
    simp only [hsz]
    have hc : ¬ (l.toArray.size ≠ k || decide (i * k + l.toArray.size > (pre ++ suf).toArray.size)) = true := by
      simp [hl]
      omega
    rw [if_neg (by simpa using hc), ← Array.foldl_toList, Array.toList_zipIdx]
    have hf := fold_mid l 0 (i * k) (pre ++ suf) (by simp; omega)
    simp only [Nat.add_zero] at hf
    rw [hf, List.take_append_of_le_length (by omega), List.take_of_length_le (by omega), List.drop_append, List.drop_eq_nil_of_le (by omega), List.nil_append]
    have h4 := fill_many ls (i + 1) (pre ++ l) (suf.drop (i * k + l.length - pre.length)) (by rw [List.length_append, h1, hl, Nat.succ_mul]) (by rw [List.length_drop]; omega) (fun x hx => h3 x (List.mem_cons_of_mem _ hx))
    rw [h4]
    simp
section
variable {P : Program} {ops : Array Oper} {rest : List Oper} {o : Oper} {a : Act} {W w : World} {Q : Exit → Act → World → Prop} {L : List Ent}
theorem wpList_litN {t e k n by' : Nat} {parts : Array (Nat × Operand)} (ls : List (List Value)) (hO : Own W w L) (ho : o.op = .buildSlice t n parts) (ht : IsSlice P t e) (hsz : IsElem P e k by') (hp0 : parts.toList.map (fun p => (p.1, a.eval p.2)) = partsOf ls 0) (hn : ls.length = n)
    (hl0 : (ls.all fun l => Nat.beq l.length k) = true) (hk0 : Nat.ble (n * k) 1000 = true) (hn1 : Nat.ble 1 n = true) (hw : Region.wanted o (yielded ops a.tmps) = true) (h : ∀ b w', Own W w' (box b (.cells ls.flatten.toArray e) :: L) → wpList P ops Q rest (a.put o.dst (.slice (some ⟨b, 0, none⟩) n n)) w') : wpList P ops Q (o :: rest) a w := by
  have h1 := hsz.out
  have hpos := hsz.pos
  have hp : (parts.map fun (i, x) => (i, a.eval x)).toList = partsOf ls 0 := by rw [Array.toList_map]; exact hp0
  have hn0 : 0 < n := Nat.le_of_ble_eq_true hn1
  have hk : n * k ≤ 1000 := Nat.le_of_ble_eq_true hk0
  have hl : ∀ l ∈ ls, l.length = k := fun l hl => Nat.eq_of_beq_eq_true (List.all_eq_true.1 hl0 l hl)
  have hnk : 0 < n * k := Nat.mul_pos hn0 hpos
  have hrun : (execOp a.eval o).run P w = .ok (.value (.slice (some ⟨w.heap.size, 0, none⟩) n n)) (w.alloc (.cells ls.flatten.toArray e)) := by
    cases hi : P.info? e with
    | none => simp [hi] at h1
    | some i =>
      cases hzz : i.zero with
      | none => simp [hi, hzz] at h1
      | some zv =>
        simp only [hi, hzz, Option.bind_some, Option.map_some, Option.some.injEq, Prod.mk.injEq] at h1
        obtain ⟨h2, h3, _⟩ := h1
        have hlt : ¬ (16777216 < n * k) := by omega
        have h0 : ¬ (n * k = 0) := by omega
        have h00 : ¬ (n = 0) := by omega
        have h01 : ¬ (k = 0) := by omega
        have hf : Instr.fill (fun i => some (i * k, k)) (Array.map (fun x => zv.cells[x % zv.cells.size]!) (Array.range (n * k))) (parts.map fun (i, x) => (i, a.eval x)).toList = some ls.flatten.toArray := by
          rw [hp]
          have := fill_many (k := k) ls 0 [] (Array.map (fun x => zv.cells[x % zv.cells.size]!) (Array.range (n * k))).toList (by simp) (by simp [hn]) hl
          rwa [List.nil_append, List.nil_append, Array.toArray_toList] at this
        unfold execOp
        simp only [ho, Instr.buildSlice]
        simp [underlying, ht.out, sizeOf, typeInfo, hi, h3, h0, zeroValue, hzz, hlt, newRow]
        simp at hf
        simp [hf]
  exact wpList_value hw hrun (h _ _ (hO.alloc _))
end
end Go.Own
namespace Go.Proofs.YtibabfedpdoofaaDoor
open Go.RowKit Go.Own Go.Maps

def failE (id : Int) (o : OrdS) : List EntI := [⟨⟨1, id, o.ref, o.sku, o.qty, o.amt, 0, 0, 0, 0, 0, []⟩, .slice none 0 0⟩, ⟨⟨3, 0, [], [], 0, 0, id, 0, 2, 0, 0, []⟩, .slice none 0 0⟩]

theorem entC_len (l : List EntI) : ∀ x ∈ l.map entC, x.length = 12 := fun x hx => by
  obtain ⟨y, _, rfl⟩ := List.mem_map.1 hx
  rfl
set_option maxHeartbeats 8000000 in
set_option maxRecDepth 100000 in
theorem fails_any (id : Int) (o : OrdS) (W : World) : Calls Tryd.prog 38 #[.int .i64 id, ordV o] W fun e w' => ∃ b, e = .returned (.slice (some ⟨b, 0, none⟩) 2 2) ∧ Own W w' [row 40 12 (.slice (some ⟨b, 0, none⟩) 2 2) ((failE id o).map entC)] := by
  have HO := Own.start W
  unfold ordV
  go_enter Tryd.func38, Tryd.ntmps38
  go_wp2_with (first | (first | go_big_skip | ((with_reducible apply wpList_loadAll HO); exact rfl; exact rfl; (repeat (with_reducible (first | exact At.head _ | apply At.tail))); infer_instance; exact rfl; exact rfl; (simp only [Act.put, List.setIfInBounds_toArray, List.set_cons_succ, List.set_cons_zero])) | ((with_reducible apply wpList_loadOne HO); exact rfl; exact rfl; (repeat (with_reducible (first | exact At.head _ | apply At.tail))); exact rfl; infer_instance; exact rfl; (simp only [Act.put, List.setIfInBounds_toArray, List.set_cons_succ, List.set_cons_zero]))) | ((with_reducible apply wpList_storeOne HO); exact rfl; exact rfl; (first | (simp [Act.eval]; rfl) | exact rfl); exact rfl; (repeat (with_reducible (first | exact At.head _ | apply At.tail))); infer_instance; exact (by simp); (simp only [List.set_cons_zero]; rfl); exact rfl; clear HO; intro w HO; (simp only [Act.put])) | (first | ((with_reducible apply wpList_boxAgg _ HO rfl); exact rfl; exact rfl; exact rfl; clear HO; intro b3 w HO; (simp only [Act.put, List.setIfInBounds_toArray, List.set_cons_succ, List.set_cons_zero])) | ((with_reducible apply wpList_allocAgg _ HO rfl); exact rfl; infer_instance; exact rfl; clear HO; intro b3 w HO; (simp only [Act.put, List.setIfInBounds_toArray, List.set_cons_succ, List.set_cons_zero]))) | ((with_reducible apply wpList_litN ([[.int .i64 1, .int .i64 id, .string ⟨o.ref.toArray⟩, .string ⟨o.sku.toArray⟩, .int .i64 o.qty, .int .i64 o.amt, .int .i64 0, .int .i64 0, .int .i64 0, .int .i64 0, .int .i64 0, .slice none 0 0], [.int .i64 3, .int .i64 0, .string ⟨#[]⟩, .string ⟨#[]⟩, .int .i64 0, .int .i64 0, .int .i64 id, .int .i64 0, .int .i64 2, .int .i64 0, .int .i64 0, .slice none 0 0]]) HO); exact rfl; infer_instance; infer_instance; exact rfl; exact rfl; exact rfl; exact rfl; exact rfl; exact rfl; clear HO; intro bl w HO; (simp only [Act.put, List.setIfInBounds_toArray, List.set_cons_succ, List.set_cons_zero])))
  go_ret
  refine ⟨bl, rfl, ?_⟩
  exact (HO.litRow (A := (failE id o).map entC) (k := 12) (entC_len _) rfl rfl (show (2 : Nat) ≤ maxLen by unfold maxLen; omega)).sub (.cons_cons _ (.cons _ (List.Sublist.refl _)))

def tdF : D6 := ⟨3, 0, 0, 0, 0, 0, false⟩
def tO1 : OrdS := ⟨1, [97], [120], 1, 5⟩
def tO2 : OrdS := ⟨2, [97, 45, 50], [120], 1, 5⟩
def tO9 : OrdS := ⟨1, [97, 45, 57], [120], 1, 5⟩
def tS1 : CoS := ⟨[(tO1, tdF)], []⟩
def tS2 : CoS := ⟨[(tO1, tdF), (tO2, beginD)], []⟩
def tS3 : CoS := ⟨[(tO1, tdF), (tO2, tdF)], []⟩
def tS9 : CoS := ⟨[(tO9, tdF)], []⟩
theorem t1 : coreOf ((failE 1 ⟨0, [97], [120], 1, 5⟩).map (·.x)) = (tS1, zeroI) := by kernel_rfl
theorem t9 : coreOf ((failE 1 ⟨0, [97, 45, 57], [120], 1, 5⟩).map (·.x)) = (tS9, zeroI) := by kernel_rfl
theorem t2 : applyS tS1 zeroI ⟨1, 2, [97, 45, 50], [120], 1, 5, 0, 0, 0, 0, 0, []⟩ = tS2 := by kernel_rfl
theorem t3 : applyS tS2 zeroI ⟨3, 0, [], [], 0, 0, 2, 0, 2, 0, 0, []⟩ = tS3 := by kernel_rfl
theorem t2e : applyE tS1 zeroI ⟨1, 2, [97, 45, 50], [120], 1, 5, 0, 0, 0, 0, 0, []⟩ = 0 := by kernel_rfl
theorem t3e : applyE tS2 zeroI ⟨3, 0, [], [], 0, 0, 2, 0, 2, 0, 0, []⟩ = 0 := by kernel_rfl
theorem tn1 : nextR tS1.L 1 = (tO2, 0) := by kernel_rfl
theorem tn3 : nextR tS3.L 1 = (zeroO, 62) := by kernel_rfl
theorem tn4 : nextR tS3.L 2 = (⟨3, [97, 45, 51], [120], 1, 5⟩, 0) := by kernel_rfl
theorem tn9 : nextR tS9.L 1 = (zeroO, 3) := by kernel_rfl
theorem tc3 : chainL tS3.L 2 = [1, 2] := by kernel_rfl
theorem coAt_left {W w : World} {L : List Ent} {a : CoA} {S : CoS} {i : InA} {A : InS} (h : Own W w (coPs a S i A ++ L)) : CoAt w a S i A := Own.coAt h (List.mem_append_left _ (.head _)) (List.mem_append_left _ (.tail _ (.head _))) (List.mem_append_left _ (.tail _ (.tail _ (.head _))))
theorem coAt_left' {W w : World} {L : List Ent} {a : CoA} {S : CoS} {i : InA} {A : InS} (h : Own W w L) (hm : ∀ e ∈ coPs a S i A, e ∈ L) : CoAt w a S i A := Own.coAt h (hm _ (.head _)) (hm _ (.tail _ (.head _))) (hm _ (.tail _ (.tail _ (.head _))))
theorem failE_in {W : World} {v : Value} {id : Int} {o : OrdS} (h1 : o.ref.length ≤ 100) (h2 : o.sku.length ≤ 100) (hi : inI id = true) : EntsIn W [row 40 12 v ((failE id o).map entC)] v (failE id o) := by
  refine ⟨fun w' _ hF => isL_of_owns (entC_len _) (hF _ List.mem_cons_self), fun e he => ?_⟩
  have hnil : ∀ w' : World, IsRows w' (.slice none 0 0) [] := fun w' => .none _ _ (fun _ => rfl)
  simp only [failE, List.mem_cons, List.not_mem_nil, or_false] at he
  rcases he with rfl | rfl
  · exact ⟨fun w' _ _ => hnil w', by unfold maxLen; dsimp only; omega, by unfold maxLen; dsimp only; omega, rfl⟩
  · exact ⟨fun w' _ _ => hnil w', by unfold maxLen; dsimp only [List.length_nil]; omega, by unfold maxLen; dsimp only [List.length_nil]; omega, hi⟩

set_option maxHeartbeats 16000000 in
set_option maxRecDepth 100000 in
theorem tried_any (W : World) (hL : LaidE W) : Calls Tryd.prog 15 #[] W fun e w' => e = .returned (.bool true) ∧ Below W.heap.size W w' := by
  have HO := Own.start W
  have F1 := fun w => fails_any 1 ⟨0, [97], [120], 1, 5⟩ w
  have F2 := fun w => fails_any 2 tO2 w
  have F9 := fun w => fails_any 1 ⟨0, [97, 45, 57], [120], 1, 5⟩ w
  simp only [ordV, tO2] at F1 F2 F9
  go_enter Tryd.func15, Tryd.ntmps15
  go_upto_region 2 with (first | go_big_skip | (first | go_big_skip | ((with_reducible apply wpList_loadAll HO); exact rfl; exact rfl; (repeat (with_reducible (first | exact At.head _ | apply At.tail))); infer_instance; exact rfl; exact rfl; (simp only [Act.put, List.setIfInBounds_toArray, List.set_cons_succ, List.set_cons_zero])) | ((with_reducible apply wpList_loadOne HO); exact rfl; exact rfl; (repeat (with_reducible (first | exact At.head _ | apply At.tail))); exact rfl; infer_instance; exact rfl; (simp only [Act.put, List.setIfInBounds_toArray, List.set_cons_succ, List.set_cons_zero]))) | (go_at_call 38; go_must ((with_reducible refine (F1 _).mono ?_); rintro e w ⟨bl, rfl, HO1⟩; replace HO := HO.lift HO1; clear HO1)) | (go_at_call 37; go_must ((have h9 := cored_any HO (fun e he => List.mem_append_left _ he) (failE_in (W := W) (id := 1) (o := ⟨0, [97], [120], 1, 5⟩) (by decide) (by decide) rfl) hL (by decide)); rw [t1] at h9; (with_reducible refine h9.mono ?_); clear h9 HO; rintro e w ⟨a, i, x, N, rfl, HO, hR⟩)))
  have HO1 : Own W w (coPs a tS1 i zeroI ++ (inPs i zeroI ++ [])) := HO.sub (List.Sublist.append (List.Sublist.refl _) (List.Sublist.append (List.Sublist.refl _) (List.nil_sublist _)))
  clear HO hR
  have r1 : refsOk tS1.L := by unfold refsOk; decide
  have N1 := next_any (coAt_left HO1) (id := 1) (by decide) r1 rfl
  rw [tn1] at N1
  simp only [ordV, tO2] at N1
  have HO := HO1
  clear HO1
  go_upto_region 5 with (first | go_big_skip | ((with_reducible apply wpList_storeAll HO); exact rfl; exact rfl; exact rfl; (repeat (with_reducible (first | exact At.head _ | apply At.tail))); infer_instance; exact rfl; exact rfl; exact rfl; exact rfl; clear HO; intro w HO; (simp only [Act.put])) | (first | ((with_reducible apply wpList_boxAgg _ HO rfl); exact rfl; exact rfl; exact rfl; clear HO; intro b4 w HO; (simp only [Act.put, List.setIfInBounds_toArray, List.set_cons_succ, List.set_cons_zero])) | ((with_reducible apply wpList_allocAgg _ HO rfl); exact rfl; infer_instance; exact rfl; clear HO; intro b4 w HO; (simp only [Act.put, List.setIfInBounds_toArray, List.set_cons_succ, List.set_cons_zero]))) | (go_at_call 22; go_must ((with_reducible refine N1.mono ?_); clear N1; rintro e w ⟨rfl, hb⟩; replace HO := HO.call hb; clear hb)))
  go_upto_region 8 with (first | go_big_skip | (first | go_big_skip | ((with_reducible apply wpList_loadAll HO); exact rfl; exact rfl; (repeat (with_reducible (first | exact At.head _ | apply At.tail))); infer_instance; exact rfl; exact rfl; (simp only [Act.put, List.setIfInBounds_toArray, List.set_cons_succ, List.set_cons_zero])) | ((with_reducible apply wpList_loadOne HO); exact rfl; exact rfl; (repeat (with_reducible (first | exact At.head _ | apply At.tail))); exact rfl; infer_instance; exact rfl; (simp only [Act.put, List.setIfInBounds_toArray, List.set_cons_succ, List.set_cons_zero]))) | (go_at_call 38; go_must ((with_reducible refine (F2 _).mono ?_); rintro e w ⟨bm, rfl, HO1⟩; replace HO := HO.lift HO1; clear HO1)))
  have HO2 : Own W w (coPs a tS1 i zeroI ++ (inPs i zeroI ++ [row 40 12 (.slice (some ⟨bm, 0, none⟩) 2 2) ((failE 2 tO2).map entC)])) := by
    have h1 := HO.sub (L' := [row 40 12 (.slice (some ⟨bm, 0, none⟩) 2 2) ((failE 2 tO2).map entC)] ++ (coPs a tS1 i zeroI ++ (inPs i zeroI ++ []))) (.cons_cons _ (.cons _ (List.Sublist.refl _)))
    exact h1.perm (by classical exact List.perm_iff_count.2 (fun x9 => by simp only [ List.count_append, List.count_cons, List.count_nil, Nat.add_zero, Nat.zero_add]; ac_rfl))
  clear HO
  have HO := HO2
  clear HO2
  have hnil : ∀ w' : World, IsRows w' (.slice none 0 0) [] := fun w' => .none _ _ (fun _ => rfl)
  have RW := Lib.hid (fun (w' : World) (L : List Ent) (h : Own W w' L) (hm : row 40 12 (.slice (some ⟨bm, 0, none⟩) 2 2) ((failE 2 tO2).map entC) ∈ L) (j : Nat) (hj : j < 2) => isL_cell' (isL_of_owns (entC_len _) (h.has _ hm)) (j := j) hj)
  have RW0 := Lib.hid (fun (w' : World) (L : List Ent) (h : Own W w' L) (hm : row 40 12 (.slice (some ⟨bm, 0, none⟩) 2 2) ((failE 2 tO2).map entC) ∈ L) => show ∀ i u, [Value.int .i64 1, .int .i64 2, .string ⟨#[97, 45, 50]⟩, .string ⟨#[120]⟩, .int .i64 1, .int .i64 5, .int .i64 0, .int .i64 0, .int .i64 0, .int .i64 0, .int .i64 0, .slice none 0 0][i]? = some u → w'.cell? ((⟨bm, 0, none⟩ : Addr).add i) = some u from fun i u hu => by
    have h9 := RW.out w' L h hm 0 (by decide) i u hu
    rwa [add0'] at h9)
  have RW1 := Lib.hid (fun (w' : World) (L : List Ent) (h : Own W w' L) (hm : row 40 12 (.slice (some ⟨bm, 0, none⟩) 2 2) ((failE 2 tO2).map entC) ∈ L) => show ∀ i u, [Value.int .i64 3, .int .i64 0, .string ⟨#[]⟩, .string ⟨#[]⟩, .int .i64 0, .int .i64 0, .int .i64 2, .int .i64 0, .int .i64 2, .int .i64 0, .int .i64 0, .slice none 0 0][i]? = some u → w'.cell? ((⟨bm, 12, none⟩ : Addr).add i) = some u from fun i u hu => RW.out w' L h hm 1 (by decide) i u hu)
  have AP1 := coApply_any (v := .slice none 0 0) ⟨1, 2, [97, 45, 50], [120], 1, 5, 0, 0, 0, 0, 0, []⟩ HO ⟨.old (hnil W) _, by unfold maxLen; decide, by unfold maxLen; decide, rfl⟩ zeroI_ok (S := tS1) ⟨by decide, by intro x hx; simp only [tS1, List.mem_singleton] at hx; subst hx; kernel_rfl, .nil⟩ (by decide) hL
  rw [t2, t2e] at AP1
  have hz1 : applyI zeroI ⟨1, 2, [97, 45, 50], [120], 1, 5, 0, 0, 0, 0, 0, []⟩ = zeroI := rfl
  have hz2 : applyI zeroI ⟨3, 0, [], [], 0, 0, 2, 0, 2, 0, 0, []⟩ = zeroI := rfl
  rw [hz1] at AP1
  have AP2 := Lib.hid (fun (w : World) (u1 v1 : Value) (i1 : InA) (h : Own W w (coPs ⟨a.c, v1, a.k, u1, a.pm, a.bm⟩ tS2 i1 zeroI ++ (inPs i1 zeroI ++ [row 40 12 (.slice (some ⟨bm, 0, none⟩) 2 2) ((failE 2 tO2).map entC)]))) => coApply_any (v := .slice none 0 0) ⟨3, 0, [], [], 0, 0, 2, 0, 2, 0, 0, []⟩ h ⟨.old (hnil W) _, by unfold maxLen; decide, by unfold maxLen; decide, rfl⟩ zeroI_ok (S := tS2) ⟨by decide, by intro x hx; simp only [tS2, List.mem_cons, List.not_mem_nil, or_false] at hx; rcases hx with rfl | rfl <;> kernel_rfl, .nil⟩ (by decide) hL)
  rw [t3, t3e, hz2] at AP2
  go_upto_region 10 with (first | go_big_skip | (first | go_big_skip | ((with_reducible apply wpList_loadAll HO); exact rfl; exact rfl; (repeat (with_reducible (first | exact At.head _ | apply At.tail))); infer_instance; exact rfl; exact rfl; (simp only [Act.put, List.setIfInBounds_toArray, List.set_cons_succ, List.set_cons_zero])) | ((with_reducible apply wpList_loadOne HO); exact rfl; exact rfl; (repeat (with_reducible (first | exact At.head _ | apply At.tail))); exact rfl; infer_instance; exact rfl; (simp only [Act.put, List.setIfInBounds_toArray, List.set_cons_succ, List.set_cons_zero]))) | ((with_reducible apply wpList_loadAt HO); exact rfl; exact rfl; exact (fun w' h1 => RW0.out w' _ h1 (by simp)); infer_instance; exact rfl; exact rfl; (simp only [Act.put, List.setIfInBounds_toArray, List.set_cons_succ, List.set_cons_zero])) | ((with_reducible apply wpList_loadAt HO); exact rfl; exact rfl; exact (fun w' h1 => RW1.out w' _ h1 (by simp)); infer_instance; exact rfl; exact rfl; (simp only [Act.put, List.setIfInBounds_toArray, List.set_cons_succ, List.set_cons_zero])) | (go_at_call 10; first | ((with_reducible refine AP1.mono ?_); clear AP1 HO; rintro e w ⟨rfl, u1, v1, i1, -, HO⟩) | ((have h9 := AP2.out _ _ _ _ HO); (with_reducible refine h9.mono ?_); clear h9 HO; rintro e w ⟨rfl, u2, v2, i2, -, HO⟩)))
  have r3 : refsOk tS3.L := by unfold refsOk; decide
  have N3 := Lib.hid (fun (w : World) (L : List Ent) (h : Own W w L) (hm : ∀ e ∈ coPs ⟨a.c, v2, a.k, u2, a.pm, a.bm⟩ tS3 i2 zeroI, e ∈ L) => tn3 ▸ next_any (coAt_left' h hm) (id := 1) (by decide) r3 rfl)
  have N4 := Lib.hid (fun (w : World) (L : List Ent) (h : Own W w L) (hm : ∀ e ∈ coPs ⟨a.c, v2, a.k, u2, a.pm, a.bm⟩ tS3 i2 zeroI, e ∈ L) => tn4 ▸ next_any (coAt_left' h hm) (id := 2) (by decide) r3 rfl)
  have C4 := Lib.hid (fun (w : World) (L : List Ent) (h : Own W w L) (hm : ∀ e ∈ coPs ⟨a.c, v2, a.k, u2, a.pm, a.bm⟩ tS3 i2 zeroI, e ∈ L) => tc3 ▸ chain_any (coAt_left' h hm) (id := 2) (by decide) r3 rfl)
  simp only [ordV, zeroO] at N3 N4
  have sub1 : ∀ (Z : Ent), ∀ e ∈ coPs ⟨a.c, v2, a.k, u2, a.pm, a.bm⟩ tS3 i2 zeroI, e ∈ Z :: (coPs ⟨a.c, v2, a.k, u2, a.pm, a.bm⟩ tS3 i2 zeroI ++ (inPs i2 zeroI ++ [row 40 12 (.slice (some ⟨bm, 0, none⟩) 2 2) ((failE 2 tO2).map entC)])) := fun Z e he => List.mem_cons_of_mem _ (List.mem_append_left _ he)
  go_upto_region 11 with (first | go_big_skip | (first | go_big_skip | ((with_reducible apply wpList_loadAll HO); exact rfl; exact rfl; (repeat (with_reducible (first | exact At.head _ | apply At.tail))); infer_instance; exact rfl; exact rfl; (simp only [Act.put, List.setIfInBounds_toArray, List.set_cons_succ, List.set_cons_zero])) | ((with_reducible apply wpList_loadOne HO); exact rfl; exact rfl; (repeat (with_reducible (first | exact At.head _ | apply At.tail))); exact rfl; infer_instance; exact rfl; (simp only [Act.put, List.setIfInBounds_toArray, List.set_cons_succ, List.set_cons_zero]))) | ((with_reducible apply wpList_storeAll HO); exact rfl; exact rfl; exact rfl; (repeat (with_reducible (first | exact At.head _ | apply At.tail))); infer_instance; exact rfl; exact rfl; exact rfl; exact rfl; clear HO; intro w HO; (simp only [Act.put])) | (first | ((with_reducible apply wpList_boxAgg _ HO rfl); exact rfl; exact rfl; exact rfl; clear HO; intro b7 w HO; (simp only [Act.put, List.setIfInBounds_toArray, List.set_cons_succ, List.set_cons_zero])) | ((with_reducible apply wpList_allocAgg _ HO rfl); exact rfl; infer_instance; exact rfl; clear HO; intro b7 w HO; (simp only [Act.put, List.setIfInBounds_toArray, List.set_cons_succ, List.set_cons_zero]))) | (go_at_call 22; go_must ((with_reducible refine (N3.out _ _ HO (fun e he => List.mem_append_left _ he)).mono ?_); rintro e w ⟨rfl, hb⟩; replace HO := HO.call hb; clear hb)))
  replace HO := HO.tail
  go_upto_region 12 with (first | go_big_skip | (go_at_call 18; go_must ((have h9 := C4.out _ _ HO (fun e he => List.mem_append_left _ he)); (with_reducible refine h9.mono ?_); clear h9; rintro e w ⟨v9, rfl, HO1⟩; replace HO := HO.lift HO1; clear HO1)))
  obtain ⟨q9, c9, rfl⟩ := (HO.rowForm (v := v9) (.head _)).2 (by decide)
  go_upto_region 13 with (first | go_big_skip | (first | go_big_skip | ((with_reducible apply wpList_loadAll HO); exact rfl; exact rfl; (repeat (with_reducible (first | exact At.head _ | apply At.tail))); infer_instance; exact rfl; exact rfl; (simp only [Act.put, List.setIfInBounds_toArray, List.set_cons_succ, List.set_cons_zero])) | ((with_reducible apply wpList_loadOne HO); exact rfl; exact rfl; (repeat (with_reducible (first | exact At.head _ | apply At.tail))); exact rfl; infer_instance; exact rfl; (simp only [Act.put, List.setIfInBounds_toArray, List.set_cons_succ, List.set_cons_zero]))) | ((with_reducible apply wpList_storeAll HO); exact rfl; exact rfl; exact rfl; (repeat (with_reducible (first | exact At.head _ | apply At.tail))); infer_instance; exact rfl; exact rfl; exact rfl; exact rfl; clear HO; intro w HO; (simp only [Act.put])) | (first | ((with_reducible apply wpList_boxAgg _ HO rfl); exact rfl; exact rfl; exact rfl; clear HO; intro b10 w HO; (simp only [Act.put, List.setIfInBounds_toArray, List.set_cons_succ, List.set_cons_zero])) | ((with_reducible apply wpList_allocAgg _ HO rfl); exact rfl; infer_instance; exact rfl; clear HO; intro b10 w HO; (simp only [Act.put, List.setIfInBounds_toArray, List.set_cons_succ, List.set_cons_zero]))) | (go_at_call 22; go_must ((with_reducible refine (N4.out _ _ HO (fun e he => List.mem_append_right _ (List.mem_append_left _ he))).mono ?_); rintro e w ⟨rfl, hb⟩; replace HO := HO.call hb; clear hb)))
  go_upto_region 14 with (first | go_big_skip | (first | go_big_skip | ((with_reducible apply wpList_loadAll HO); exact rfl; exact rfl; (repeat (with_reducible (first | exact At.head _ | apply At.tail))); infer_instance; exact rfl; exact rfl; (simp only [Act.put, List.setIfInBounds_toArray, List.set_cons_succ, List.set_cons_zero])) | ((with_reducible apply wpList_loadOne HO); exact rfl; exact rfl; (repeat (with_reducible (first | exact At.head _ | apply At.tail))); exact rfl; infer_instance; exact rfl; (simp only [Act.put, List.setIfInBounds_toArray, List.set_cons_succ, List.set_cons_zero]))) | (go_at_call 38; go_must ((with_reducible refine (F9 _).mono ?_); rintro e w ⟨bz, rfl, HO1⟩; replace HO := HO.lift HO1; clear HO1)) | (go_at_call 37; go_must ((have h9 := cored_any HO (fun e he => List.mem_append_left _ he) (failE_in (W := W) (id := 1) (o := ⟨0, [97, 45, 57], [120], 1, 5⟩) (by decide) (by decide) rfl) hL (by decide)); rw [t9] at h9; (with_reducible refine h9.mono ?_); clear h9 HO; rintro e w ⟨a9, i9, x9, N9, rfl, HO, -⟩)))
  have m10 : box b10 (.cells #[.int .i64 3, .string ⟨#[97, 45, 51]⟩, .string ⟨#[120]⟩, .int .i64 1, .int .i64 5] 33) ∈ N9 ++ ([row 40 12 (.slice (some ⟨bz, 0, none⟩) 2 2) ((failE 1 ⟨0, [97, 45, 57], [120], 1, 5⟩).map entC)] ++ box b10 (.cells #[.int .i64 3, .string ⟨#[97, 45, 51]⟩, .string ⟨#[120]⟩, .int .i64 1, .int .i64 5] 33) :: ([row 3 1 (.slice (some q9) ([1, 2].map intC).length c9) ([1, 2].map intC)] ++ (coPs ⟨a.c, v2, a.k, u2, a.pm, a.bm⟩ tS3 i2 zeroI ++ (inPs i2 zeroI ++ [row 40 12 (.slice (some ⟨bm, 0, none⟩) 2 2) ((failE 2 tO2).map entC)])))) := by simp
  have mch : row 3 1 (.slice (some q9) ([1, 2].map intC).length c9) ([1, 2].map intC) ∈ N9 ++ ([row 40 12 (.slice (some ⟨bz, 0, none⟩) 2 2) ((failE 1 ⟨0, [97, 45, 57], [120], 1, 5⟩).map entC)] ++ box b10 (.cells #[.int .i64 3, .string ⟨#[97, 45, 51]⟩, .string ⟨#[120]⟩, .int .i64 1, .int .i64 5] 33) :: ([row 3 1 (.slice (some q9) ([1, 2].map intC).length c9) ([1, 2].map intC)] ++ (coPs ⟨a.c, v2, a.k, u2, a.pm, a.bm⟩ tS3 i2 zeroI ++ (inPs i2 zeroI ++ [row 40 12 (.slice (some ⟨bm, 0, none⟩) 2 2) ((failE 2 tO2).map entC)])))) := by simp
  generalize N9 ++ _ = M9 at *
  have N9' := next_any (coAt_left HO) (id := 1) (by decide) (by unfold refsOk; decide) rfl
  rw [tn9] at N9'
  simp only [ordV, zeroO] at N9'
  go_upto_region 15 with (first | go_big_skip | ((with_reducible apply wpList_storeAll HO); exact rfl; exact rfl; exact rfl; (repeat (with_reducible (first | exact At.head _ | apply At.tail))); infer_instance; exact rfl; exact rfl; exact rfl; exact rfl; clear HO; intro w HO; (simp only [Act.put])) | (first | ((with_reducible apply wpList_boxAgg _ HO rfl); exact rfl; exact rfl; exact rfl; clear HO; intro b15 w HO; (simp only [Act.put, List.setIfInBounds_toArray, List.set_cons_succ, List.set_cons_zero])) | ((with_reducible apply wpList_allocAgg _ HO rfl); exact rfl; infer_instance; exact rfl; clear HO; intro b15 w HO; (simp only [Act.put, List.setIfInBounds_toArray, List.set_cons_succ, List.set_cons_zero]))) | (go_at_call 22; go_must ((with_reducible refine N9'.mono ?_); clear N9'; rintro e w ⟨rfl, hb⟩; replace HO := HO.call hb; clear hb)))
  have R10 := Lib.hid (fun (w' : World) (L : List Ent) (h : Own W w' L) (hm : box b10 (.cells #[.int .i64 3, .string ⟨#[97, 45, 51]⟩, .string ⟨#[120]⟩, .int .i64 1, .int .i64 5] 33) ∈ L) => (old_cell (cs := [.int .i64 3, .string ⟨#[97, 45, 51]⟩, .string ⟨#[120]⟩, .int .i64 1, .int .i64 5]) (h.has _ hm) 1 rfl : w'.cell? ⟨b10, 1, none⟩ = some (.string ⟨#[97, 45, 51]⟩)))
  have RC := Lib.hid (fun (w' : World) (L : List Ent) (h : Own W w' L) (hm : row 3 1 (.slice (some q9) ([1, 2].map intC).length c9) ([1, 2].map intC) ∈ L) (j : Nat) (hj : j < 2) => isL_cell' (isL_of_owns (intC_len [1, 2]) (h.has _ hm)) (j := j) hj 0)
  have RC0 := Lib.hid (fun (w' : World) (L : List Ent) (h : Own W w' L) (hm : row 3 1 (.slice (some q9) ([1, 2].map intC).length c9) ([1, 2].map intC) ∈ L) => show w'.cell? q9 = some (.int .i64 1) from by
    have h9 := RC.out w' L h hm 0 (by decide) _ rfl
    rwa [add0', add0] at h9)
  have RC1 := Lib.hid (fun (w' : World) (L : List Ent) (h : Own W w' L) (hm : row 3 1 (.slice (some q9) ([1, 2].map intC).length c9) ([1, 2].map intC) ∈ L) => show w'.cell? (q9.add 1) = some (.int .i64 2) from by
    have h9 := RC.out w' L h hm 1 (by decide) _ rfl
    rwa [Nat.mul_one, add0] at h9)
  have mm : ∀ e ∈ M9, ∀ (Z R : Ent), e ∈ Z :: (coPs a9 tS9 i9 zeroI ++ (inPs i9 zeroI ++ R :: M9)) := fun e he Z R => List.mem_cons_of_mem _ (List.mem_append_right _ (List.mem_append_right _ (List.mem_cons_of_mem _ he)))
  have k10 := Lib.hid (mm _ m10)
  have kch := Lib.hid (mm _ mch)
  clear mm m10 mch RC
  simp only [List.length_map, List.length_cons, List.length_nil] at RC0 RC1 kch
  go_wp2_with (first | go_big_skip | (first | go_big_skip | ((with_reducible apply wpList_loadAll HO); exact rfl; exact rfl; (repeat (with_reducible (first | exact At.head _ | apply At.tail))); infer_instance; exact rfl; exact rfl; (simp only [Act.put, List.setIfInBounds_toArray, List.set_cons_succ, List.set_cons_zero])) | ((with_reducible apply wpList_loadOne HO); exact rfl; exact rfl; (repeat (with_reducible (first | exact At.head _ | apply At.tail))); exact rfl; infer_instance; exact rfl; (simp only [Act.put, List.setIfInBounds_toArray, List.set_cons_succ, List.set_cons_zero]))) | ((with_reducible apply wpList_loadAt1 HO); exact rfl; exact rfl; exact (fun w' h1 => R10.out w' _ h1 (k10.out _ _)); infer_instance; exact rfl; (simp only [Act.put, List.setIfInBounds_toArray, List.set_cons_succ, List.set_cons_zero])) | ((with_reducible apply wpList_loadAt1 HO); exact rfl; exact rfl; exact (fun w' h1 => RC0.out w' _ h1 (kch.out _ _)); infer_instance; exact rfl; (simp only [Act.put, List.setIfInBounds_toArray, List.set_cons_succ, List.set_cons_zero])) | ((with_reducible apply wpList_loadAt1 HO); exact rfl; exact rfl; exact (fun w' h1 => RC1.out w' _ h1 (kch.out _ _)); infer_instance; exact rfl; (simp only [Act.put, List.setIfInBounds_toArray, List.set_cons_succ, List.set_cons_zero])))
  go_ret
  exact ⟨rfl, HO.grown⟩
end Go.Proofs.YtibabfedpdoofaaDoor

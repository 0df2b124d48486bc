/-
  The document's core: a reply, a statement, any entry, by walking its text; conditions: the core is one that entries come to, the rows lie in memory, int64 numbers.
  Which entries are too great, by walking the law's text; conditions: texts no longer than memory bears.
  Entries that came in, and which of them are too great, by walking the law's text; conditions: the entries lie in memory.
  The core that entries come to, and the document's: alike, by walking the law's text; conditions: the entries lie in memory, the laid tables.
  From a walk of a law to its row: what every law shares, over any program; conditions: none.
  From a walk of a law to its row, where tables and the map of the deeds' words are laid; conditions: none.
  Entries that came in, opened; conditions: none.
-/
import Derived.Test.YtibabfedpdoofaaGreatDoorRows
import Derived.ProofKit
import Derived.OpenShut
import Derived.Deep.DeepHandedRow
import Derived.Lib.LaidTab
import Derived.Test.YtibabfedpdoofaaGreatDoorTie
import Derived.Test.YtibabfedpdoofaaGreatDoorCards
import Derived.SevenTiedAt
import Derived.WideKeyElems2
import Derived.Deep.Slices
import Derived.Test.YtibabfedpdoofaaGreatDoorQa1
import Derived.Test.YtibabfedpdoofaaGreatDoorQa9
import Derived.Test.YtibabfedpdoofaaGreatDoorQa10
import Derived.Test.YtibabfedpdoofaaGreatDoorQa12
namespace Go.Proofs.YtibabfedpdoofaaGreatDoor
open Go.RowKit Go.Own Go.Maps

set_option maxHeartbeats 16000000 in
set_option maxRecDepth 100000 in
theorem rcApp3_any {W w : World} {M G : List Ent} {x : RcA} {S : CoS} {A : InS} {v9 : Value} (y : EntS) (HO : Own W w (rcB x A :: M)) (hG : RcIn W G x S A) (hm : ∀ e ∈ G, e ∈ M) (hy : EntF W G y v9) (hok : CoOk S) (hids : idsOk S.L) (hlen : S.P.length ≤ 99000) (hk : y.k = 3) :
    Calls Tryz.prog 28 #[.pointer (some ⟨x.r, 0, none⟩), .agg #[.int .i64 (y).k, .int .i64 (y).id, .string ⟨(y).ref.toArray⟩, .string ⟨(y).sku.toArray⟩, .int .i64 (y).qty, .int .i64 (y).amt, .int .i64 (y).o, .int .i64 (y).d, .int .i64 (y).c, .int .i64 (y).p, .int .i64 (y).q, v9]] w fun e w' => e = .returned (.int .i64 (replyE S.L y.o y.d y.c)) ∧ ∃ (x' : RcA) (N : List Ent), x'.r = x.r ∧ Own W w' (rcB x' A :: (N ++ M)) ∧ RcIn W (N ++ G) x' (rawReplyS S y.o y.d y.c) A := by
  have hu := (hy.rows w HO.grown (fun e he => HO.has _ (.tail _ (hm e he)))).slice
  obtain ⟨vp, vc, rfl, -⟩ := hu
  have hid := hy.o
  obtain ⟨yk, yid, yref, ysku, yq, ya, id, yd, yc, yp, yqq, yrs⟩ := y
  simp only at hid hk
  subst hk
  change Calls Tryz.prog 28 _ w fun e w' => e = .returned (.int .i64 (replyE S.L id yd yc)) ∧ ∃ (x' : RcA) (N : List Ent), x'.r = x.r ∧ Own W w' (rcB x' A :: (N ++ M)) ∧ RcIn W (N ++ G) x' (rawReplyS S id yd yc) A
  have RP := Lib.hid (fun (w : World) (a : Ent) (h : Own W w (a :: rcB x A :: M)) => rcReply_any (M := a :: M) (G := G) id yd yc (h.perm (List.Perm.swap _ _ _)) hG (fun e he => .tail _ (hm e he)) hid hok hids hlen)
  clear hG hy hok hids hlen hid hm
  go_enter Tryz.func28, Tryz.ntmps28
  go_wp2_with (first | go_big_skip | (first | go_big_skip | ((with_reducible apply wpList_loadAll HO); exact rfl; exact rfl; (repeat (with_reducible (first | exact At.head _ | apply At.tail))); infer_instance; exact rfl; exact rfl; (simp only [Act.put, zA, zB, zC])) | ((with_reducible apply wpList_loadOne HO); exact rfl; exact rfl; (repeat (with_reducible (first | exact At.head _ | apply At.tail))); exact rfl; infer_instance; exact rfl; (simp only [Act.put, zA, zB, zC]))) | ((with_reducible apply wpList_loadPart HO); exact rfl; exact rfl; (repeat (with_reducible (first | exact At.head _ | apply At.tail))); infer_instance; exact (Nat.le_of_ble_eq_true rfl); (simp only [List.drop_succ_cons, List.drop_zero, List.take_succ_cons, List.take_zero]; rfl); exact rfl; (simp only [Act.put, zA, zB, zC])) | (first | ((with_reducible apply wpList_boxAgg _ HO rfl); exact rfl; exact rfl; exact rfl; clear HO; intro b1 w HO; (simp only [Act.put, zA, zB, zC])) | ((with_reducible apply wpList_allocAgg _ HO rfl); exact rfl; infer_instance; exact rfl; clear HO; intro b1 w HO; (simp only [Act.put, zA, zB, zC]))) | (go_at_call 88; go_must ((have h9 := RP.out _ _ HO); (with_reducible refine h9.mono ?_); clear h9 HO; rintro e w ⟨rfl, x', N, hr, HO, hG⟩)))
  go_ret
  refine ⟨rfl, x', N ++ [_], hr, by rw [List.append_assoc]; exact HO, hG.mono (fun e he => ?_)⟩
  rcases List.mem_append.1 he with he | he
  · exact List.mem_append_left _ (List.mem_append_left _ he)
  · exact List.mem_append_right _ he

set_option maxHeartbeats 16000000 in
set_option maxRecDepth 100000 in
theorem rcApp5_any {W w : World} {M G : List Ent} {x : RcA} {S : CoS} {A : InS} {v9 : Value} (y : EntS) (HO : Own W w (rcB x A :: M)) (hG : RcIn W G x S A) (hm : ∀ e ∈ G, e ∈ M) (hy : EntF W G y v9) (h1 : y.k ≠ 1) (h2 : y.k ≠ 2) (h3 : y.k ≠ 3) (h4 : y.k ≠ 4) :
    Calls Tryz.prog 28 #[.pointer (some ⟨x.r, 0, none⟩), .agg #[.int .i64 (y).k, .int .i64 (y).id, .string ⟨(y).ref.toArray⟩, .string ⟨(y).sku.toArray⟩, .int .i64 (y).qty, .int .i64 (y).amt, .int .i64 (y).o, .int .i64 (y).d, .int .i64 (y).c, .int .i64 (y).p, .int .i64 (y).q, v9]] w fun e w' => e = .returned (.int .i64 2) ∧ ∃ (x' : RcA) (N : List Ent), x'.r = x.r ∧ Own W w' (rcB x' A :: (N ++ M)) ∧ RcIn W (N ++ G) x' S A := by
  have hu := (hy.rows w HO.grown (fun e he => HO.has _ (.tail _ (hm e he)))).slice
  obtain ⟨vp, vc, rfl, -⟩ := hu
  have HG := Lib.hid hG
  clear hG hy hm
  go_enter Tryz.func28, Tryz.ntmps28
  go_wp2_with (first | go_big_skip | (first | go_big_skip | ((with_reducible apply wpList_loadAll HO); exact rfl; exact rfl; (repeat (with_reducible (first | exact At.head _ | apply At.tail))); infer_instance; exact rfl; exact rfl; (simp only [Act.put, zA, zB, zC])) | ((with_reducible apply wpList_loadOne HO); exact rfl; exact rfl; (repeat (with_reducible (first | exact At.head _ | apply At.tail))); exact rfl; infer_instance; exact rfl; (simp only [Act.put, zA, zB, zC]))) | ((with_reducible apply wpList_loadPart HO); exact rfl; exact rfl; (repeat (with_reducible (first | exact At.head _ | apply At.tail))); infer_instance; exact (Nat.le_of_ble_eq_true rfl); (simp only [List.drop_succ_cons, List.drop_zero, List.take_succ_cons, List.take_zero]; rfl); exact rfl; (simp only [Act.put, zA, zB, zC])) | (first | ((with_reducible apply wpList_boxAgg _ HO rfl); exact rfl; exact rfl; exact rfl; clear HO; intro b1 w HO; (simp only [Act.put, zA, zB, zC])) | ((with_reducible apply wpList_allocAgg _ HO rfl); exact rfl; infer_instance; exact rfl; clear HO; intro b1 w HO; (simp only [Act.put, zA, zB, zC]))))
  go_ret
  first | exact ⟨rfl, x, rfl, [], HO.tail, HG.out⟩ | exact ⟨rfl, x, [], rfl, HO.tail, HG.out⟩

theorem rc_put {w : World} {v0 v1 v2 v : Value} {A : InS} {p q : Int} {rs : List RowS} (h0 : IsRows w v0 A.r0) (h1 : IsRows w v1 A.r1) (h2 : IsRows w v2 A.r2) (h : IsRows w v rs) (hp : p = 0 ∨ p = 1 ∨ p = 2) :
    IsRows w (if p = 0 then v else v0) (A.put p q rs).r0 ∧ IsRows w (if p = 1 then v else v1) (A.put p q rs).r1 ∧ IsRows w (if p = 2 then v else v2) (A.put p q rs).r2 := by
  rcases hp with rfl | rfl | rfl
  · exact ⟨h, h1, h2⟩
  · exact ⟨h0, h, h2⟩
  · exact ⟨h0, h1, h⟩

set_option maxHeartbeats 16000000 in
set_option maxRecDepth 100000 in
theorem rcApp4no_any {W w : World} {M G : List Ent} {x : RcA} {S : CoS} {A : InS} {v9 : Value} (y : EntS) (HO : Own W w (rcB x A :: M)) (hG : RcIn W G x S A) (hm : ∀ e ∈ G, e ∈ M) (hy : EntF W G y v9) (hk : y.k = 4) (ha : accE A y.p y.q y.rs ≠ 0) :
    Calls Tryz.prog 28 #[.pointer (some ⟨x.r, 0, none⟩), .agg #[.int .i64 (y).k, .int .i64 (y).id, .string ⟨(y).ref.toArray⟩, .string ⟨(y).sku.toArray⟩, .int .i64 (y).qty, .int .i64 (y).amt, .int .i64 (y).o, .int .i64 (y).d, .int .i64 (y).c, .int .i64 (y).p, .int .i64 (y).q, v9]] w fun e w' => e = .returned (.int .i64 (accE A y.p y.q y.rs)) ∧ ∃ (x' : RcA) (N : List Ent), x'.r = x.r ∧ Own W w' (rcB x' A :: (N ++ M)) ∧ RcIn W (N ++ G) x' S A := by
  have hu := (hy.rows w HO.grown (fun e he => HO.has _ (.tail _ (hm e he)))).slice
  obtain ⟨vp, vc, rfl, -⟩ := hu
  obtain ⟨r, v, u, v0, v1, v2⟩ := x
  obtain ⟨yk, yid, yref, ysku, yq, ya, yo, yd, yc, p, q, rs⟩ := y
  have hrs := hy.rows
  simp only at hk ha hrs
  subst hk
  change Calls Tryz.prog 28 _ w fun e w' => e = .returned (.int .i64 (accE A p q rs)) ∧ ∃ (x' : RcA) (N : List Ent), x'.r = r ∧ Own W w' (rcB x' A :: (N ++ M)) ∧ RcIn W (N ++ G) x' S A
  have AC := Lib.hid (fun (w : World) (L : List Ent) (h : Own W w L) (hM : ∀ e ∈ M, e ∈ L) => show Calls Tryz.prog 89 #[.agg #[.int .i64 (A).p0, .int .i64 (A).q0, v0, .int .i64 (A).p1, .int .i64 (A).q1, v1, .int .i64 (A).p2, .int .i64 (A).q2, v2], .agg #[.int .i64 p, .int .i64 q, .slice vp rs.length vc]] w fun e w' => e = .returned (.tuple #[.agg #[.int .i64 0, .int .i64 0, .slice none 0 0, .int .i64 0, .int .i64 0, .slice none 0 0, .int .i64 0, .int .i64 0, .slice none 0 0], .int .i64 (accE A p q rs)]) ∧ Below w.heap.size w w' from by
    have h1 := hG.at h (fun e he => hM e (hm e he))
    refine (refAccept_any A p q rs h1.i0 h1.i1 h1.i2 (hrs w h.grown (fun e he => h.has _ (hM e (hm e he))))).mono ?_
    intro e w' he
    unfold RefAccPost at he
    rw [if_neg ha] at he
    exact ⟨he.2, he.1⟩)
  have HG := Lib.hid hG
  unfold rcB rcC at HO
  simp only at HO
  have hex : (accE A p q rs != 0) = true := by simpa using ha
  generalize accE A p q rs = ex at *
  clear hG hy hm hrs ha
  go_enter Tryz.func28, Tryz.ntmps28
  go_upto_region 24 with (first | go_big_skip | (first | go_big_skip | ((with_reducible apply wpList_loadAll HO); exact rfl; exact rfl; (repeat (with_reducible (first | exact At.head _ | apply At.tail))); infer_instance; exact rfl; exact rfl; (simp only [Act.put, zA, zB, zC])) | ((with_reducible apply wpList_loadOne HO); exact rfl; exact rfl; (repeat (with_reducible (first | exact At.head _ | apply At.tail))); exact rfl; infer_instance; exact rfl; (simp only [Act.put, zA, zB, zC]))) | (first | ((with_reducible apply wpList_boxAgg _ HO rfl); exact rfl; exact rfl; exact rfl; clear HO; intro b1 w HO; (simp only [Act.put, zA, zB, zC])) | ((with_reducible apply wpList_allocAgg _ HO rfl); exact rfl; infer_instance; exact rfl; clear HO; intro b1 w HO; (simp only [Act.put, zA, zB, zC]))))
  go_cut [8, 9] (fun x e wx => ∃ b8, x = .pointer (some ⟨b8, 0, none⟩) ∧ e = .int .i64 ex ∧ Own W wx (box b8 (.cells #[.int .i64 0, .int .i64 0, .slice none 0 0, .int .i64 0, .int .i64 0, .slice none 0 0, .int .i64 0, .int .i64 0, .slice none 0 0] 150) :: box b1 (.cells #[.int .i64 4, .int .i64 yid, .string ⟨yref.toArray⟩, .string ⟨ysku.toArray⟩, .int .i64 yq, .int .i64 ya, .int .i64 yo, .int .i64 yd, .int .i64 yc, .int .i64 p, .int .i64 q, .slice vp rs.length vc] 34) :: box r (.cells #[v, u, .int .i64 A.p0, .int .i64 A.q0, v0, .int .i64 A.p1, .int .i64 A.q1, v1, .int .i64 A.p2, .int .i64 A.q2, v2] 152) :: M))
  case first =>
        refine region_treeO (box b1 (.cells #[.int .i64 4, .int .i64 yid, .string ⟨yref.toArray⟩, .string ⟨ysku.toArray⟩, .int .i64 yq, .int .i64 ya, .int .i64 yo, .int .i64 yd, .int .i64 yc, .int .i64 p, .int .i64 q, .slice vp rs.length vc] 34) :: box r (.cells #[v, u, .int .i64 A.p0, .int .i64 A.q0, v0, .int .i64 A.p1, .int .i64 A.q1, v1, .int .i64 A.p2, .int .i64 A.q2, v2] 152) :: M) [(0, true), (1, true), (2, true), (3, true), (4, true), (5, true), (7, true), (8, true), (9, true), (12, true)] (.fork [(0, true), (1, true), (2, true), (3, true), (4, true), (5, true)] 6 10 (.fin [(7, true), (8, true), (9, true), (10, false), (11, false), (12, true)]) (.fin [(6, false), (7, true), (8, true), (9, true), (11, false), (12, true)])) HO (by with_reducible (repeat (first | exact List.Sublist.refl _ | apply List.Sublist.cons_cons | apply List.Sublist.cons))) (by kernel_rfl) (by kernel_rfl) ?_
        clear HO
        intro w HO
        refine wpS_fork ?_
        repeat (first | ((with_reducible apply wpSched_loadAll); exact rfl; exact rfl; exact rfl; (repeat (with_reducible (first | exact At.head _ | apply At.tail))); infer_instance; exact rfl; exact rfl; (simp only [Act.put, zA, zB, zC])) | ((with_reducible apply wpSched_loadOne); exact rfl; exact rfl; exact rfl; (repeat (with_reducible (first | exact At.head _ | apply At.tail))); exact rfl; infer_instance; exact rfl; (simp only [Act.put, zA, zB, zC])) | ((with_reducible apply wpSched_loadPart); exact rfl; exact rfl; (first | (simp [Act.eval]; rfl) | exact rfl); (repeat (with_reducible (first | exact At.head _ | apply At.tail))); infer_instance; exact (Nat.le_of_ble_eq_true rfl); (simp only [List.drop_succ_cons, List.drop_zero, List.take_succ_cons, List.take_zero]; rfl); exact rfl; (simp only [Act.put, zA, zB, zC])) | ((with_reducible apply wpSched_pure); exact rfl; exact rfl; (intro w'; go_simp; try with_reducible rfl); (simp only [Act.put, zA, zB, zC])))
        refine fork_end rfl rfl ?_ ?_
        · go_wp2_with ((go_at_call 89; go_must ((with_reducible refine (AC.out _ _ HO (by intro e he; repeat (first | exact he | apply List.mem_cons_of_mem))).mono ?_); rintro e w ⟨rfl, hb⟩; replace HO := HO.call hb; clear hb)))
          refine thenQ_keep (HO.heldO (by with_reducible (repeat (first | exact List.Sublist.refl _ | apply List.Sublist.cons_cons | apply List.Sublist.cons)))) ?_
          refine wpS_fin ?_
          repeat (first | ((with_reducible apply wpSched_loadAll); exact rfl; exact rfl; exact rfl; (repeat (with_reducible (first | exact At.head _ | apply At.tail))); infer_instance; exact rfl; exact rfl; (simp only [Act.put, zA, zB, zC])) | ((with_reducible apply wpSched_loadOne); exact rfl; exact rfl; exact rfl; (repeat (with_reducible (first | exact At.head _ | apply At.tail))); exact rfl; infer_instance; exact rfl; (simp only [Act.put, zA, zB, zC])) | ((with_reducible apply wpSched_loadPart); exact rfl; exact rfl; (first | (simp [Act.eval]; rfl) | exact rfl); (repeat (with_reducible (first | exact At.head _ | apply At.tail))); infer_instance; exact (Nat.le_of_ble_eq_true rfl); (simp only [List.drop_succ_cons, List.drop_zero, List.take_succ_cons, List.take_zero]; rfl); exact rfl; (simp only [Act.put, zA, zB, zC])) | ((with_reducible apply wpSched_pure); exact rfl; exact rfl; (intro w'; go_simp; try with_reducible rfl); (simp only [Act.put, zA, zB, zC])))
          ((with_reducible apply wpSched_loud); exact rfl; (first | ((with_reducible apply wpList_boxAgg _ HO rfl); exact rfl; exact rfl; exact rfl; clear HO; intro b8 w HO; (simp only [Act.put, zA, zB, zC])) | ((with_reducible apply wpList_allocAgg _ HO rfl); exact rfl; infer_instance; exact rfl; clear HO; intro b8 w HO; (simp only [Act.put, zA, zB, zC])) | ((with_reducible apply wpList_boxOne _ HO rfl); exact rfl; (first | (simp [Act.eval]; rfl) | exact rfl); exact rfl; exact rfl; clear HO; intro b8 w HO; (simp only [Act.put, zA, zB, zC])) | ((with_reducible apply wpList_alloc _ HO rfl); exact rfl; infer_instance; exact rfl; exact rfl; clear HO; intro b8 w HO; (simp only [Act.put, zA, zB, zC]))))
          refine wpList_nil (thenQ_keep (HO.heldO (by with_reducible (repeat (first | exact List.Sublist.refl _ | apply List.Sublist.cons_cons | apply List.Sublist.cons)))) ?_)
          ((with_reducible apply wpSched_loud); exact rfl; ((with_reducible apply wpList_storeAll HO); exact rfl; exact rfl; exact rfl; (repeat (with_reducible (first | exact At.head _ | apply At.tail))); infer_instance; exact rfl; exact rfl; exact rfl; exact rfl; clear HO; intro w HO; (simp only [Act.put])))
          refine wpList_nil (thenQ_keep (HO.heldO (by with_reducible (repeat (first | exact List.Sublist.refl _ | apply List.Sublist.cons_cons | apply List.Sublist.cons)))) ?_)
          repeat ((with_reducible apply wpSched_pure); exact rfl; exact rfl; (intro w'; go_simp; try with_reducible rfl); (simp only [Act.put, zA, zB, zC]))
          refine wpSched_end ?_
          go_wp2_with fail
          go_meet
          exact ⟨b8, rfl, rfl, HO⟩
        · (first | ((with_reducible apply wpList_boxAgg _ HO rfl); exact rfl; exact rfl; exact rfl; clear HO; intro b8 w HO; (simp only [Act.put, zA, zB, zC])) | ((with_reducible apply wpList_allocAgg _ HO rfl); exact rfl; infer_instance; exact rfl; clear HO; intro b8 w HO; (simp only [Act.put, zA, zB, zC])) | ((with_reducible apply wpList_boxOne _ HO rfl); exact rfl; (first | (simp [Act.eval]; rfl) | exact rfl); exact rfl; exact rfl; clear HO; intro b8 w HO; (simp only [Act.put, zA, zB, zC])) | ((with_reducible apply wpList_alloc _ HO rfl); exact rfl; infer_instance; exact rfl; exact rfl; clear HO; intro b8 w HO; (simp only [Act.put, zA, zB, zC])))
          refine wpList_nil (thenQ_keep (HO.heldO (by with_reducible (repeat (first | exact List.Sublist.refl _ | apply List.Sublist.cons_cons | apply List.Sublist.cons)))) ?_)
          refine wpS_fin ?_
          ((with_reducible apply wpSched_loud); exact rfl; go_wp2_with ((go_at_call 89; go_must ((with_reducible refine (AC.out _ _ HO (by intro e he; repeat (first | exact he | apply List.mem_cons_of_mem))).mono ?_); rintro e w ⟨rfl, hb⟩; replace HO := HO.call hb; clear hb))))
          refine thenQ_keep (HO.heldO (by with_reducible (repeat (first | exact List.Sublist.refl _ | apply List.Sublist.cons_cons | apply List.Sublist.cons)))) ?_
          repeat (first | ((with_reducible apply wpSched_loadAll); exact rfl; exact rfl; exact rfl; (repeat (with_reducible (first | exact At.head _ | apply At.tail))); infer_instance; exact rfl; exact rfl; (simp only [Act.put, zA, zB, zC])) | ((with_reducible apply wpSched_loadOne); exact rfl; exact rfl; exact rfl; (repeat (with_reducible (first | exact At.head _ | apply At.tail))); exact rfl; infer_instance; exact rfl; (simp only [Act.put, zA, zB, zC])) | ((with_reducible apply wpSched_loadPart); exact rfl; exact rfl; (first | (simp [Act.eval]; rfl) | exact rfl); (repeat (with_reducible (first | exact At.head _ | apply At.tail))); infer_instance; exact (Nat.le_of_ble_eq_true rfl); (simp only [List.drop_succ_cons, List.drop_zero, List.take_succ_cons, List.take_zero]; rfl); exact rfl; (simp only [Act.put, zA, zB, zC])) | ((with_reducible apply wpSched_pure); exact rfl; exact rfl; (intro w'; go_simp; try with_reducible rfl); (simp only [Act.put, zA, zB, zC])))
          ((with_reducible apply wpSched_loud); exact rfl; ((with_reducible apply wpList_storeAll HO); exact rfl; exact rfl; exact rfl; (repeat (with_reducible (first | exact At.head _ | apply At.tail))); infer_instance; exact rfl; exact rfl; exact rfl; exact rfl; clear HO; intro w HO; (simp only [Act.put])))
          refine wpList_nil (thenQ_keep (HO.heldO (by with_reducible (repeat (first | exact List.Sublist.refl _ | apply List.Sublist.cons_cons | apply List.Sublist.cons)))) ?_)
          repeat ((with_reducible apply wpSched_pure); exact rfl; exact rfl; (intro w'; go_simp; try with_reducible rfl); (simp only [Act.put, zA, zB, zC]))
          refine wpSched_end ?_
          go_wp2_with fail
          go_meet
          exact ⟨b8, rfl, rfl, HO⟩
  clear HO
  obtain ⟨b8, rfl, rfl, HO⟩ := hcut
  go_wp2_with (first | go_big_skip | (first | go_big_skip | ((with_reducible apply wpList_loadAll HO); exact rfl; exact rfl; (repeat (with_reducible (first | exact At.head _ | apply At.tail))); infer_instance; exact rfl; exact rfl; (simp only [Act.put, zA, zB, zC])) | ((with_reducible apply wpList_loadOne HO); exact rfl; exact rfl; (repeat (with_reducible (first | exact At.head _ | apply At.tail))); exact rfl; infer_instance; exact rfl; (simp only [Act.put, zA, zB, zC]))))
  go_ret
  first | exact ⟨rfl, ⟨r, v, u, v0, v1, v2⟩, rfl, [], HO.tail.tail, HG.out⟩ | exact ⟨rfl, ⟨r, v, u, v0, v1, v2⟩, [], rfl, HO.tail.tail, HG.out⟩

def sdC (q : Nat) (o : Int) : ByteArray := ⟨#[115]⟩ ++ ⟨(Lib.decDigits q).toArray⟩ ++ ⟨#[45]⟩ ++ ⟨(Lib.itoa o).toArray⟩
set_option maxHeartbeats 64000000 in
set_option maxRecDepth 100000 in
theorem rcApp4yes_any {W w : World} {M G : List Ent} {x : RcA} {S : CoS} {A : InS} {v9 : Value} (y : EntS) (HO : Own W w (rcB x A :: M)) (hG : RcIn W G x S A) (hm : ∀ e ∈ G, e ∈ M) (hy : EntF W G y v9) (hk : y.k = 4) (hA : InOk A) (hlen : S.P.length ≤ 99000) (ha : accE A y.p y.q y.rs = 0) :
    Calls Tryz.prog 28 #[.pointer (some ⟨x.r, 0, none⟩), .agg #[.int .i64 (y).k, .int .i64 (y).id, .string ⟨(y).ref.toArray⟩, .string ⟨(y).sku.toArray⟩, .int .i64 (y).qty, .int .i64 (y).amt, .int .i64 (y).o, .int .i64 (y).d, .int .i64 (y).c, .int .i64 (y).p, .int .i64 (y).q, v9]] w fun e w' => e = .returned (.int .i64 0) ∧ ∃ (x' : RcA) (N : List Ent), x'.r = x.r ∧ Own W w' (rcB x' (A.put y.p y.q y.rs) :: (N ++ M)) ∧ RcIn W (N ++ G) x' { S with P := rawStmt S.P (byI A (A.put y.p y.q y.rs)) y.q 60 } (A.put y.p y.q y.rs) := by
  have hu := (hy.rows w HO.grown (fun e he => HO.has _ (.tail _ (hm e he)))).slice
  obtain ⟨vp, vc, rfl, -⟩ := hu
  obtain ⟨r, v, u, v0, v1, v2⟩ := x
  obtain ⟨yk, yid, yref, ysku, yq, ya, yo, yd, yc, p, q, rs⟩ := y
  have hrs := hy.rows
  simp only at hk ha hrs
  subst hk
  have hst := okStmt_ok (accE_ok ha).1
  have hp3 : p = 0 ∨ p = 1 ∨ p = 2 := by omega
  have hB : InOk (A.put p q rs) := put_ok hA (accE_ok ha).1
  obtain ⟨qn, rfl⟩ : ∃ n : Nat, q = (n : Int) := ⟨q.toNat, by omega⟩
  have hqn : qn < 9223372036854775808 := by omega
  change Calls Tryz.prog 28 _ w fun e w' => e = .returned (.int .i64 0) ∧ ∃ (x' : RcA) (N : List Ent), x'.r = r ∧ Own W w' (rcB x' (A.put p qn rs) :: (N ++ M)) ∧ RcIn W (N ++ G) x' { S with P := rawStmt S.P (byI A (A.put p qn rs)) qn 60 } (A.put p qn rs)
  have AC := (fun (w : World) (L : List Ent) (h : Own W w L) (hM : ∀ e ∈ M, e ∈ L) => show Calls Tryz.prog 89 #[.agg #[.int .i64 (A).p0, .int .i64 (A).q0, v0, .int .i64 (A).p1, .int .i64 (A).q1, v1, .int .i64 (A).p2, .int .i64 (A).q2, v2], .agg #[.int .i64 p, .int .i64 (qn : Int), .slice vp rs.length vc]] w fun e w' => e = .returned (.tuple #[.agg #[.int .i64 ((A.put p qn rs)).p0, .int .i64 ((A.put p qn rs)).q0, (if p = 0 then (.slice vp rs.length vc) else v0), .int .i64 ((A.put p qn rs)).p1, .int .i64 ((A.put p qn rs)).q1, (if p = 1 then (.slice vp rs.length vc) else v1), .int .i64 ((A.put p qn rs)).p2, .int .i64 ((A.put p qn rs)).q2, (if p = 2 then (.slice vp rs.length vc) else v2)], .int .i64 0]) ∧ Below w.heap.size w w' from by
    have h1 := hG.at h (fun e he => hM e (hm e he))
    refine (refAccept_any A p qn rs h1.i0 h1.i1 h1.i2 (hrs w h.grown (fun e he => h.has _ (hM e (hm e he))))).mono ?_
    intro e w' he
    unfold RefAccPost at he
    rw [if_pos ha] at he
    exact ⟨he.2, he.1⟩)
  have HB := (fun (w' : World) (hb : Below W.heap.size W w') (hF : ∀ e ∈ G, e.F w') => rc_put (p := p) (q := qn) (hG w' hb hF).i0 (hG w' hb hF).i1 (hG w' hb hF).i2 (hrs w' hb hF) hp3)
  simp only at HB
  have D1 := fun w => digits24_any qn hqn w
  have hlq : (Lib.decDigits qn).length ≤ 25 := by
    have := Lib.itoa_length_le (qn : Int) (by omega) (by omega)
    rw [Lib.itoa_nonneg] at this
    omega
  have HIQ := Lib.hid (show ∀ o, sidK (qn : Int) o = sdC qn o from fun o => by unfold sidK sdC; rw [Lib.itoa_nonneg])
  generalize hw0 : (if p = 0 then (Value.slice vp rs.length vc) else v0) = w0 at *
  generalize hw1 : (if p = 1 then (Value.slice vp rs.length vc) else v1) = w1 at *
  generalize hw2 : (if p = 2 then (Value.slice vp rs.length vc) else v2) = w2 at *
  generalize hBB : A.put p qn rs = B at *
  have hBw := HB w HO.grown (fun e he => HO.has _ (.tail _ (hm e he)))
  obtain ⟨t0, d0, hs0, -⟩ := hBw.1.slice
  obtain ⟨t1, d1, hs1, -⟩ := hBw.2.1.slice
  obtain ⟨t2, d2, hs2, -⟩ := hBw.2.2.slice
  clear hw0 hw1 hw2 hBw
  subst hs0
  subst hs1
  subst hs2
  have NB0 := Lib.hid (fun (o : Int) (w : World) (L : List Ent) (h : Own W w L) (hM : ∀ e ∈ M, e ∈ L) => have h1 := HB w h.grown (fun e he => h.has _ (hM e (hm e he))); refNet_any B o h1.1 h1.2.1 h1.2.2 hB)
  have NA0 := Lib.hid (fun (o : Int) (w : World) (L : List Ent) (h : Own W w L) (hM : ∀ e ∈ M, e ∈ L) => have h1 := hG.at h (fun e he => hM e (hm e he)); refNet_any A o h1.i0 h1.i1 h1.i2 hA)
  have bB := netI_bound hB
  have bA := netI_bound hA
  have HGB := Lib.hid (show RcIn W G ⟨r, v, u, .slice t0 B.r0.length d0, .slice t1 B.r1.length d1, .slice t2 B.r2.length d2⟩ S B from fun w' hb hF => ⟨(hG w' hb hF).l, (hG w' hb hF).b, (HB w' hb hF).1, (HB w' hb hF).2.1, (HB w' hb hF).2.2⟩)
  have HM := Lib.hid hm
  replace AC := Lib.hid AC
  unfold rcB rcC at HO
  simp only at HO
  clear hG hy hm hrs ha hst hp3 HB hB hA hBB
  go_enter Tryz.func28, Tryz.ntmps28
  go_upto_region 24 with (first | go_big_skip | (first | go_big_skip | ((with_reducible apply wpList_loadAll HO); exact rfl; exact rfl; (repeat (with_reducible (first | exact At.head _ | apply At.tail))); infer_instance; exact rfl; exact rfl; (simp only [Act.put, zA, zB, zC])) | ((with_reducible apply wpList_loadOne HO); exact rfl; exact rfl; (repeat (with_reducible (first | exact At.head _ | apply At.tail))); exact rfl; infer_instance; exact rfl; (simp only [Act.put, zA, zB, zC]))) | (first | ((with_reducible apply wpList_boxAgg _ HO rfl); exact rfl; exact rfl; exact rfl; clear HO; intro b1 w HO; (simp only [Act.put, zA, zB, zC])) | ((with_reducible apply wpList_allocAgg _ HO rfl); exact rfl; infer_instance; exact rfl; clear HO; intro b1 w HO; (simp only [Act.put, zA, zB, zC]))))
  go_cut [8, 9] (fun x e wx => ∃ b8, x = .pointer (some ⟨b8, 0, none⟩) ∧ e = .int .i64 0 ∧ Own W wx (box b8 (.cells #[.int .i64 B.p0, .int .i64 B.q0, .slice t0 B.r0.length d0, .int .i64 B.p1, .int .i64 B.q1, .slice t1 B.r1.length d1, .int .i64 B.p2, .int .i64 B.q2, .slice t2 B.r2.length d2] 150) :: box b1 (.cells #[.int .i64 4, .int .i64 yid, .string ⟨yref.toArray⟩, .string ⟨ysku.toArray⟩, .int .i64 yq, .int .i64 ya, .int .i64 yo, .int .i64 yd, .int .i64 yc, .int .i64 p, .int .i64 (qn : Int), .slice vp rs.length vc] 34) :: box r (.cells #[v, u, .int .i64 A.p0, .int .i64 A.q0, v0, .int .i64 A.p1, .int .i64 A.q1, v1, .int .i64 A.p2, .int .i64 A.q2, v2] 152) :: M))
  case first =>
        refine region_treeO (box b1 (.cells #[.int .i64 4, .int .i64 yid, .string ⟨yref.toArray⟩, .string ⟨ysku.toArray⟩, .int .i64 yq, .int .i64 ya, .int .i64 yo, .int .i64 yd, .int .i64 yc, .int .i64 p, .int .i64 (qn : Int), .slice vp rs.length vc] 34) :: box r (.cells #[v, u, .int .i64 A.p0, .int .i64 A.q0, v0, .int .i64 A.p1, .int .i64 A.q1, v1, .int .i64 A.p2, .int .i64 A.q2, v2] 152) :: M) [(0, true), (1, true), (2, true), (3, true), (4, true), (5, true), (7, true), (8, true), (9, true), (12, true)] (.fork [(0, true), (1, true), (2, true), (3, true), (4, true), (5, true)] 6 10 (.fin [(7, true), (8, true), (9, true), (10, false), (11, false), (12, true)]) (.fin [(6, false), (7, true), (8, true), (9, true), (11, false), (12, true)])) HO (by with_reducible (repeat (first | exact List.Sublist.refl _ | apply List.Sublist.cons_cons | apply List.Sublist.cons))) (by kernel_rfl) (by kernel_rfl) ?_
        clear HO
        intro w HO
        refine wpS_fork ?_
        repeat (first | ((with_reducible apply wpSched_loadAll); exact rfl; exact rfl; exact rfl; (repeat (with_reducible (first | exact At.head _ | apply At.tail))); infer_instance; exact rfl; exact rfl; (simp only [Act.put, zA, zB, zC])) | ((with_reducible apply wpSched_loadOne); exact rfl; exact rfl; exact rfl; (repeat (with_reducible (first | exact At.head _ | apply At.tail))); exact rfl; infer_instance; exact rfl; (simp only [Act.put, zA, zB, zC])) | ((with_reducible apply wpSched_loadPart); exact rfl; exact rfl; (first | (simp [Act.eval]; rfl) | exact rfl); (repeat (with_reducible (first | exact At.head _ | apply At.tail))); infer_instance; exact (Nat.le_of_ble_eq_true rfl); (simp only [List.drop_succ_cons, List.drop_zero, List.take_succ_cons, List.take_zero]; rfl); exact rfl; (simp only [Act.put, zA, zB, zC])) | ((with_reducible apply wpSched_pure); exact rfl; exact rfl; (intro w'; go_simp; try with_reducible rfl); (simp only [Act.put, zA, zB, zC])))
        refine fork_end rfl rfl ?_ ?_
        · go_wp2_with ((go_at_call 89; go_must ((with_reducible refine (AC.out _ _ HO (by intro e he; repeat (first | exact he | apply List.mem_cons_of_mem))).mono ?_); rintro e w ⟨rfl, hb⟩; replace HO := HO.call hb; clear hb)))
          refine thenQ_keep (HO.heldO (by with_reducible (repeat (first | exact List.Sublist.refl _ | apply List.Sublist.cons_cons | apply List.Sublist.cons)))) ?_
          refine wpS_fin ?_
          repeat (first | ((with_reducible apply wpSched_loadAll); exact rfl; exact rfl; exact rfl; (repeat (with_reducible (first | exact At.head _ | apply At.tail))); infer_instance; exact rfl; exact rfl; (simp only [Act.put, zA, zB, zC])) | ((with_reducible apply wpSched_loadOne); exact rfl; exact rfl; exact rfl; (repeat (with_reducible (first | exact At.head _ | apply At.tail))); exact rfl; infer_instance; exact rfl; (simp only [Act.put, zA, zB, zC])) | ((with_reducible apply wpSched_loadPart); exact rfl; exact rfl; (first | (simp [Act.eval]; rfl) | exact rfl); (repeat (with_reducible (first | exact At.head _ | apply At.tail))); infer_instance; exact (Nat.le_of_ble_eq_true rfl); (simp only [List.drop_succ_cons, List.drop_zero, List.take_succ_cons, List.take_zero]; rfl); exact rfl; (simp only [Act.put, zA, zB, zC])) | ((with_reducible apply wpSched_pure); exact rfl; exact rfl; (intro w'; go_simp; try with_reducible rfl); (simp only [Act.put, zA, zB, zC])))
          ((with_reducible apply wpSched_loud); exact rfl; (first | ((with_reducible apply wpList_boxAgg _ HO rfl); exact rfl; exact rfl; exact rfl; clear HO; intro b8 w HO; (simp only [Act.put, zA, zB, zC])) | ((with_reducible apply wpList_allocAgg _ HO rfl); exact rfl; infer_instance; exact rfl; clear HO; intro b8 w HO; (simp only [Act.put, zA, zB, zC])) | ((with_reducible apply wpList_boxOne _ HO rfl); exact rfl; (first | (simp [Act.eval]; rfl) | exact rfl); exact rfl; exact rfl; clear HO; intro b8 w HO; (simp only [Act.put, zA, zB, zC])) | ((with_reducible apply wpList_alloc _ HO rfl); exact rfl; infer_instance; exact rfl; exact rfl; clear HO; intro b8 w HO; (simp only [Act.put, zA, zB, zC]))))
          refine wpList_nil (thenQ_keep (HO.heldO (by with_reducible (repeat (first | exact List.Sublist.refl _ | apply List.Sublist.cons_cons | apply List.Sublist.cons)))) ?_)
          ((with_reducible apply wpSched_loud); exact rfl; ((with_reducible apply wpList_storeAll HO); exact rfl; exact rfl; exact rfl; (repeat (with_reducible (first | exact At.head _ | apply At.tail))); infer_instance; exact rfl; exact rfl; exact rfl; exact rfl; clear HO; intro w HO; (simp only [Act.put])))
          refine wpList_nil (thenQ_keep (HO.heldO (by with_reducible (repeat (first | exact List.Sublist.refl _ | apply List.Sublist.cons_cons | apply List.Sublist.cons)))) ?_)
          repeat ((with_reducible apply wpSched_pure); exact rfl; exact rfl; (intro w'; go_simp; try with_reducible rfl); (simp only [Act.put, zA, zB, zC]))
          refine wpSched_end ?_
          go_wp2_with fail
          go_meet
          exact ⟨b8, rfl, rfl, HO⟩
        · (first | ((with_reducible apply wpList_boxAgg _ HO rfl); exact rfl; exact rfl; exact rfl; clear HO; intro b8 w HO; (simp only [Act.put, zA, zB, zC])) | ((with_reducible apply wpList_allocAgg _ HO rfl); exact rfl; infer_instance; exact rfl; clear HO; intro b8 w HO; (simp only [Act.put, zA, zB, zC])) | ((with_reducible apply wpList_boxOne _ HO rfl); exact rfl; (first | (simp [Act.eval]; rfl) | exact rfl); exact rfl; exact rfl; clear HO; intro b8 w HO; (simp only [Act.put, zA, zB, zC])) | ((with_reducible apply wpList_alloc _ HO rfl); exact rfl; infer_instance; exact rfl; exact rfl; clear HO; intro b8 w HO; (simp only [Act.put, zA, zB, zC])))
          refine wpList_nil (thenQ_keep (HO.heldO (by with_reducible (repeat (first | exact List.Sublist.refl _ | apply List.Sublist.cons_cons | apply List.Sublist.cons)))) ?_)
          refine wpS_fin ?_
          ((with_reducible apply wpSched_loud); exact rfl; go_wp2_with ((go_at_call 89; go_must ((with_reducible refine (AC.out _ _ HO (by intro e he; repeat (first | exact he | apply List.mem_cons_of_mem))).mono ?_); rintro e w ⟨rfl, hb⟩; replace HO := HO.call hb; clear hb))))
          refine thenQ_keep (HO.heldO (by with_reducible (repeat (first | exact List.Sublist.refl _ | apply List.Sublist.cons_cons | apply List.Sublist.cons)))) ?_
          repeat (first | ((with_reducible apply wpSched_loadAll); exact rfl; exact rfl; exact rfl; (repeat (with_reducible (first | exact At.head _ | apply At.tail))); infer_instance; exact rfl; exact rfl; (simp only [Act.put, zA, zB, zC])) | ((with_reducible apply wpSched_loadOne); exact rfl; exact rfl; exact rfl; (repeat (with_reducible (first | exact At.head _ | apply At.tail))); exact rfl; infer_instance; exact rfl; (simp only [Act.put, zA, zB, zC])) | ((with_reducible apply wpSched_loadPart); exact rfl; exact rfl; (first | (simp [Act.eval]; rfl) | exact rfl); (repeat (with_reducible (first | exact At.head _ | apply At.tail))); infer_instance; exact (Nat.le_of_ble_eq_true rfl); (simp only [List.drop_succ_cons, List.drop_zero, List.take_succ_cons, List.take_zero]; rfl); exact rfl; (simp only [Act.put, zA, zB, zC])) | ((with_reducible apply wpSched_pure); exact rfl; exact rfl; (intro w'; go_simp; try with_reducible rfl); (simp only [Act.put, zA, zB, zC])))
          ((with_reducible apply wpSched_loud); exact rfl; ((with_reducible apply wpList_storeAll HO); exact rfl; exact rfl; exact rfl; (repeat (with_reducible (first | exact At.head _ | apply At.tail))); infer_instance; exact rfl; exact rfl; exact rfl; exact rfl; clear HO; intro w HO; (simp only [Act.put])))
          refine wpList_nil (thenQ_keep (HO.heldO (by with_reducible (repeat (first | exact List.Sublist.refl _ | apply List.Sublist.cons_cons | apply List.Sublist.cons)))) ?_)
          repeat ((with_reducible apply wpSched_pure); exact rfl; exact rfl; (intro w'; go_simp; try with_reducible rfl); (simp only [Act.put, zA, zB, zC]))
          refine wpSched_end ?_
          go_wp2_with fail
          go_meet
          exact ⟨b8, rfl, rfl, HO⟩
  clear HO AC
  obtain ⟨b8, rfl, rfl, HO⟩ := hcut
  go_wp2_with (first | go_big_skip | (first | go_big_skip | ((with_reducible apply wpList_loadAll HO); exact rfl; exact rfl; (repeat (with_reducible (first | exact At.head _ | apply At.tail))); infer_instance; exact rfl; exact rfl; (simp only [Act.put, zA, zB, zC])) | ((with_reducible apply wpList_loadOne HO); exact rfl; exact rfl; (repeat (with_reducible (first | exact At.head _ | apply At.tail))); exact rfl; infer_instance; exact rfl; (simp only [Act.put, zA, zB, zC]))))
  go_loopw [10] (fun o wr => ∃ (k : Nat) (u' : Value) (N : List Ent), k ≤ 60 ∧ o = .int .i64 ((k : Int) + 1) ∧ RcIn W (N ++ G) ⟨r, v, u', .slice t0 B.r0.length d0, .slice t1 B.r1.length d1, .slice t2 B.r2.length d2⟩ ⟨S.L, rawStmt S.P (byI A B) qn k⟩ B ∧ (rawStmt S.P (byI A B) qn k).length ≤ S.P.length + k ∧ Own W wr (box b8 (.cells #[.int .i64 B.p0, .int .i64 B.q0, .slice t0 B.r0.length d0, .int .i64 B.p1, .int .i64 B.q1, .slice t1 B.r1.length d1, .int .i64 B.p2, .int .i64 B.q2, .slice t2 B.r2.length d2] 150) :: box b1 (.cells #[.int .i64 4, .int .i64 yid, .string ⟨yref.toArray⟩, .string ⟨ysku.toArray⟩, .int .i64 yq, .int .i64 ya, .int .i64 yo, .int .i64 yd, .int .i64 yc, .int .i64 p, .int .i64 (qn : Int), .slice vp rs.length vc] 34) :: box r (.cells #[v, u', .int .i64 A.p0, .int .i64 A.q0, v0, .int .i64 A.p1, .int .i64 A.q1, v1, .int .i64 A.p2, .int .i64 A.q2, v2] 152) :: (N ++ M))) (fun o _ => 62 - (intOf o).toNat)
  case atStart => exact ⟨0, u, [], by omega, rfl, HGB.out, Nat.le_refl _, HO⟩
  case round =>
    clear HO
    obtain ⟨k, u', N, hk, rfl, hR, hlk, HO⟩ := hrel
    by_cases hk60 : k < 60
    rotate_left
    · have hk' : k = 60 := by omega
      have hkI : ¬ ((k : Int) + 1 ≤ 60) := by omega
      subst hk'
      have HR := Lib.hid hR
      clear hR hlk hk60 NA0 NB0 D1 HIQ bB bA
      go_wp2_with (first | go_big_skip | (first | go_big_skip | ((with_reducible apply wpList_loadAll HO); exact rfl; exact rfl; (repeat (with_reducible (first | exact At.head _ | apply At.tail))); infer_instance; exact rfl; exact rfl; (simp only [Act.put, zA, zB, zC])) | ((with_reducible apply wpList_loadOne HO); exact rfl; exact rfl; (repeat (with_reducible (first | exact At.head _ | apply At.tail))); exact rfl; infer_instance; exact rfl; (simp only [Act.put, zA, zB, zC]))) | ((with_reducible apply wpList_storePart HO); exact rfl; exact rfl; (first | (simp [Act.eval]; rfl) | exact rfl); exact rfl; (repeat (with_reducible (first | exact At.head _ | apply At.tail))); infer_instance; exact rfl; exact (by simp); (simp only [putL, List.drop_succ_cons, List.drop_zero, List.take_succ_cons, List.take_zero, List.length_cons, List.length_nil, List.cons_append, List.nil_append, List.append_nil, Nat.reduceAdd]; rfl); exact rfl; exact rfl; clear HO; intro w HO; (simp only [Act.put])))
      go_ret
      have h6 := HO.perm ((List.perm_append_comm (l₁ := [_, _]) (l₂ := [_])).append_right (N ++ M))
      simp only [List.cons_append, List.nil_append] at h6
      have h8 := fun (a b : Ent) => HR.out.mono (H := (a :: b :: N) ++ G) (fun e he => by
        rcases List.mem_append.1 he with he | he
        · exact List.mem_append_left _ (List.mem_cons_of_mem _ (List.mem_cons_of_mem _ he))
        · exact List.mem_append_right _ he)
      exact ⟨rfl, ⟨r, v, u', .slice t0 B.r0.length d0, .slice t1 B.r1.length d1, .slice t2 B.r2.length d2⟩, rfl, _ :: _ :: N, h6, h8 _ _⟩
    · have hkI : (k : Int) + 1 ≤ 60 := by omega
      have NA := Lib.hid (NA0.out ((k : Int) + 1))
      have NB := Lib.hid (NB0.out ((k : Int) + 1))
      have D2 : ∀ w, Calls Tryz.prog 91 #[.int .i64 ((k : Int) + 1)] w fun e w' => e = .returned (.string ⟨(Lib.decDigits (k + 1)).toArray⟩) ∧ Below w.heap.size w w' := fun w => digits24_any (k + 1) (by omega) w
      have hl2 : (Lib.decDigits (k + 1)).length ≤ 25 := by
        have := Lib.itoa_length_le ((k + 1 : Nat) : Int) (by omega) (by omega)
        rw [Lib.itoa_nonneg] at this
        omega
      have z1 : (⟨(Lib.decDigits qn).toArray⟩ : ByteArray).size ≤ 25 := by rw [str_size]; exact hlq
      have z2 : (⟨(Lib.decDigits (k + 1)).toArray⟩ : ByteArray).size ≤ 25 := by rw [str_size]; exact hl2
      have HS := Lib.hid (show sidK (qn : Int) ((k : Int) + 1) = (⟨#[115]⟩ : ByteArray) ++ ⟨(Lib.decDigits qn).toArray⟩ ++ ⟨#[45]⟩ ++ ⟨(Lib.decDigits (k + 1)).toArray⟩ from (HIQ.out _).trans (by unfold sdC; rw [show ((k : Int) + 1) = ((k + 1 : Nat) : Int) from rfl, Lib.itoa_nonneg]))
      have hnx := Lib.hid (show rawStmt S.P (byI A B) qn (k + 1) = if netI B ((k : Int) + 1) - netI A ((k : Int) + 1) = 0 then rawStmt S.P (byI A B) qn k else rawStmt S.P (byI A B) qn k ++ [stPst qn ((k : Int) + 1) (netI B ((k : Int) + 1) - netI A ((k : Int) + 1))] from rfl)
      have HSP := Lib.hid (fun x => show stPst qn ((k : Int) + 1) x = if x < 0 then ⟨sidK qn ((k : Int) + 1), (k : Int) + 1, 1, 2, -x⟩ else ⟨sidK qn ((k : Int) + 1), (k : Int) + 1, 2, 1, x⟩ from rfl)
      have bB1 := bB ((k : Int) + 1)
      have bA1 := bA ((k : Int) + 1)
      have HR := Lib.hid hR
      have HMN := Lib.hid (show ∀ e ∈ N ++ G, e ∈ N ++ M from fun e he => by
        rcases List.mem_append.1 he with he | he
        · exact List.mem_append_left _ he
        · exact List.mem_append_right _ (HM.out e he))
      clear NA0 NB0 bB bA HIQ hR hlq hl2
      generalize hPy : rawStmt S.P (byI A B) qn (k + 1) = Py at *
      generalize rawStmt S.P (byI A B) qn k = Px at *
      generalize netI B ((k : Int) + 1) = nb at *
      generalize netI A ((k : Int) + 1) = na at *
      generalize sidK qn ((k : Int) + 1) = id9 at *
      generalize (⟨(Lib.decDigits qn).toArray⟩ : ByteArray) = x1 at *
      generalize (⟨(Lib.decDigits (k + 1)).toArray⟩ : ByteArray) = x2 at *
      have q1 : ((⟨#[115]⟩ : ByteArray) ++ x1).size = 1 + x1.size := by rw [ByteArray.size_append]; rfl
      have q2 : ((⟨#[115]⟩ : ByteArray) ++ x1 ++ ⟨#[45]⟩).size = 1 + x1.size + 1 := by rw [ByteArray.size_append, q1]; rfl
      have a1 : ¬ (9223372036854775807 < (⟨#[115]⟩ : ByteArray).size + x1.size) := by show ¬ (9223372036854775807 < 1 + x1.size); omega
      have a1' : ¬ (9223372036854775807 < 1 + x1.size) := by omega
      have a2 : ¬ (9223372036854775807 < ((⟨#[115]⟩ : ByteArray) ++ x1).size + (⟨#[45]⟩ : ByteArray).size) := by rw [q1]; show ¬ (9223372036854775807 < 1 + x1.size + 1); omega
      have a2' : ¬ (9223372036854775807 < 1 + x1.size + 1) := by omega
      have a3 : ¬ (9223372036854775807 < ((⟨#[115]⟩ : ByteArray) ++ x1 ++ ⟨#[45]⟩).size + x2.size) := by rw [q2]; omega
      have a3' : ¬ (9223372036854775807 < 1 + x1.size + 1 + x2.size) := by omega
      have hwr : IntKind.i64.wrap (nb - na) = nb - na := wrap_in (inI_iff.2 (by omega))
      have hlx : Px.length ≤ 100000 := by omega
      have hp2 := fun (a b X : Ent) => (List.perm_append_comm (l₁ := [a, b]) (l₂ := [X])).append_right (N ++ M)
      have PO := Lib.hid (fun (d c' am : Int) (w : World) (a b : Ent) (h : Own W w (a :: b :: rcB ⟨r, v, u', v0, v1, v2⟩ A :: (N ++ M))) => rcPost_any (P := Px) id9 ((k : Int) + 1) d c' am (h.perm (hp2 a b _)) (fun w' L' h hM => (HR.out.at h (fun e he => hM e (.tail _ (.tail _ (HMN.out e he))))).b) hlx)
      go_upto_region 30 with (first | go_big_skip | (first | go_big_skip | ((with_reducible apply wpList_loadAll HO); exact rfl; exact rfl; (repeat (with_reducible (first | exact At.head _ | apply At.tail))); infer_instance; exact rfl; exact rfl; (simp only [Act.put, zA, zB, zC])) | ((with_reducible apply wpList_loadOne HO); exact rfl; exact rfl; (repeat (with_reducible (first | exact At.head _ | apply At.tail))); exact rfl; infer_instance; exact rfl; (simp only [Act.put, zA, zB, zC]))))
      refine region_own HO (by kernel_rfl) (by kernel_rfl) ?_
      clear HO
      intro F HF
      repeat (first | (first | go_big_quiet_skip | ((with_reducible apply wpQuiet_loadAll HF); exact rfl; exact rfl; (repeat (with_reducible (first | exact At.head _ | apply At.tail))); infer_instance; exact rfl; exact rfl; (simp only [Act.put, zA, zB, zC])) | ((with_reducible apply wpQuiet_loadOne HF); exact rfl; exact rfl; (repeat (with_reducible (first | exact At.head _ | apply At.tail))); exact rfl; infer_instance; exact rfl; (simp only [Act.put, zA, zB, zC])) | ((with_reducible apply wpQuiet_loadPart HF); exact rfl; exact rfl; (repeat (with_reducible (first | exact At.head _ | apply At.tail))); infer_instance; exact (Nat.le_of_ble_eq_true rfl); (simp only [List.drop_succ_cons, List.drop_zero, List.take_succ_cons, List.take_zero]; rfl); exact rfl; (simp only [Act.put, zA, zB, zC]))) | go_big_quiet_step ((go_at_call 90; first | (with_reducible exact calls_fam HF (NB.out _ _ (HF.own _) (by intro e he; exact List.mem_cons_of_mem _ (List.mem_cons_of_mem _ (List.mem_cons_of_mem _ (List.mem_append_right _ he)))))) | (with_reducible exact calls_fam HF (NA.out _ _ (HF.own _) (by intro e he; exact List.mem_cons_of_mem _ (List.mem_cons_of_mem _ (List.mem_cons_of_mem _ (List.mem_append_right _ he)))))))))
      refine wpQuiet_nil ?_
      intro x
      have HO := HF.own x
      clear HF
      generalize F x = w at *
      clear x F
      by_cases c1 : 0 < nb - na
      · rw [if_neg (by omega), HSP.out, if_neg (by omega)] at hnx
        replace hPy := Lib.hid (hPy.trans hnx.out)
        go_wp2_with (first | go_big_skip | (first | go_big_skip | ((with_reducible apply wpList_loadAll HO); exact rfl; exact rfl; (repeat (with_reducible (first | exact At.head _ | apply At.tail))); infer_instance; exact rfl; exact rfl; (simp only [Act.put, zA, zB, zC])) | ((with_reducible apply wpList_loadOne HO); exact rfl; exact rfl; (repeat (with_reducible (first | exact At.head _ | apply At.tail))); exact rfl; infer_instance; exact rfl; (simp only [Act.put, zA, zB, zC]))) | ((with_reducible apply wpList_loadPart HO); exact rfl; exact rfl; (repeat (with_reducible (first | exact At.head _ | apply At.tail))); infer_instance; exact (Nat.le_of_ble_eq_true rfl); (simp only [List.drop_succ_cons, List.drop_zero, List.take_succ_cons, List.take_zero]; rfl); exact rfl; (simp only [Act.put, zA, zB, zC])) | (go_at_call 91; first | ((with_reducible refine (D1 _).mono ?_); (rintro e w ⟨rfl, hb⟩; replace HO := HO.call hb; clear hb)) | ((with_reducible refine (D2 _).mono ?_); (rintro e w ⟨rfl, hb⟩; replace HO := HO.call hb; clear hb))) | (go_at_call 92; rw [← HS.out]; go_must ((have h9 := PO.out 2 1 (nb - na) _ _ _ HO); (with_reducible refine h9.mono ?_); clear h9 HO; rintro e w ⟨rfl, u9, HO⟩)))
        go_roundw
        case rel =>
          have h6 := HO.perm ((List.perm_append_comm (l₁ := [_, _]) (l₂ := [_, _])).append_right (N ++ M))
          simp only [List.cons_append, List.nil_append] at h6
          exact ⟨k + 1, u9, row 187 5 u9 ((Px ++ [(⟨id9, (k : Int) + 1, 2, 1, nb - na⟩ : Pst)]).map pstC) :: N, by omega, by go_num, by rw [hPy.out]; exact HR.out.setP u9 (Px ++ [(⟨id9, (k : Int) + 1, 2, 1, nb - na⟩ : Pst)]) _, by rw [hPy.out]; simp; omega, h6⟩
        case measure => simp [intOf] <;> omega
      by_cases c2 : nb - na < 0
      · rw [if_neg (by omega), HSP.out, if_pos (by omega)] at hnx
        replace hPy := Lib.hid (hPy.trans hnx.out)
        go_wp2_with (first | go_big_skip | (first | go_big_skip | ((with_reducible apply wpList_loadAll HO); exact rfl; exact rfl; (repeat (with_reducible (first | exact At.head _ | apply At.tail))); infer_instance; exact rfl; exact rfl; (simp only [Act.put, zA, zB, zC])) | ((with_reducible apply wpList_loadOne HO); exact rfl; exact rfl; (repeat (with_reducible (first | exact At.head _ | apply At.tail))); exact rfl; infer_instance; exact rfl; (simp only [Act.put, zA, zB, zC]))) | ((with_reducible apply wpList_loadPart HO); exact rfl; exact rfl; (repeat (with_reducible (first | exact At.head _ | apply At.tail))); infer_instance; exact (Nat.le_of_ble_eq_true rfl); (simp only [List.drop_succ_cons, List.drop_zero, List.take_succ_cons, List.take_zero]; rfl); exact rfl; (simp only [Act.put, zA, zB, zC])) | (go_at_call 91; first | ((with_reducible refine (D1 _).mono ?_); (rintro e w ⟨rfl, hb⟩; replace HO := HO.call hb; clear hb)) | ((with_reducible refine (D2 _).mono ?_); (rintro e w ⟨rfl, hb⟩; replace HO := HO.call hb; clear hb))) | (go_at_call 92; rw [← HS.out]; go_must ((have h9 := PO.out 1 2 (-(nb - na)) _ _ _ HO); (with_reducible refine h9.mono ?_); clear h9 HO; rintro e w ⟨rfl, u9, HO⟩)))
        go_roundw
        case rel =>
          have h6 := HO.perm ((List.perm_append_comm (l₁ := [_, _]) (l₂ := [_, _])).append_right (N ++ M))
          simp only [List.cons_append, List.nil_append] at h6
          exact ⟨k + 1, u9, row 187 5 u9 ((Px ++ [(⟨id9, (k : Int) + 1, 1, 2, -(nb - na)⟩ : Pst)]).map pstC) :: N, by omega, by go_num, by rw [hPy.out]; exact HR.out.setP u9 (Px ++ [(⟨id9, (k : Int) + 1, 1, 2, -(nb - na)⟩ : Pst)]) _, by rw [hPy.out]; simp; omega, h6⟩
        case measure => simp [intOf] <;> omega
      rw [if_pos (by omega)] at hnx
      replace hPy := Lib.hid (hPy.trans hnx.out)
      go_wp2_with (first | go_big_skip | (first | go_big_skip | ((with_reducible apply wpList_loadAll HO); exact rfl; exact rfl; (repeat (with_reducible (first | exact At.head _ | apply At.tail))); infer_instance; exact rfl; exact rfl; (simp only [Act.put, zA, zB, zC])) | ((with_reducible apply wpList_loadOne HO); exact rfl; exact rfl; (repeat (with_reducible (first | exact At.head _ | apply At.tail))); exact rfl; infer_instance; exact rfl; (simp only [Act.put, zA, zB, zC]))) | ((with_reducible apply wpList_loadPart HO); exact rfl; exact rfl; (repeat (with_reducible (first | exact At.head _ | apply At.tail))); infer_instance; exact (Nat.le_of_ble_eq_true rfl); (simp only [List.drop_succ_cons, List.drop_zero, List.take_succ_cons, List.take_zero]; rfl); exact rfl; (simp only [Act.put, zA, zB, zC])) | (go_at_call 91; first | ((with_reducible refine (D1 _).mono ?_); (rintro e w ⟨rfl, hb⟩; replace HO := HO.call hb; clear hb)) | ((with_reducible refine (D2 _).mono ?_); (rintro e w ⟨rfl, hb⟩; replace HO := HO.call hb; clear hb))))
      go_roundw
      case rel =>
        exact ⟨k + 1, u', N, by omega, by go_num, by rw [hPy.out]; exact HR.out, by rw [hPy.out]; omega, HO⟩
      case measure => simp [intOf] <;> omega

/-- An entry: what the document's core comes to is what the program's does. -/
theorem rcApply_any {W w : World} {M G : List Ent} {x : RcA} {S : CoS} {A : InS} {v9 : Value} (y : EntS) (HO : Own W w (rcB x A :: M)) (hG : RcIn W G x S A) (hm : ∀ e ∈ G, e ∈ M) (hy : EntF W G y v9) (hI : CoInv S A) (hids : idsOk S.L) (hlen : S.P.length ≤ 99000) :
    Calls Tryz.prog 28 #[.pointer (some ⟨x.r, 0, none⟩), .agg #[.int .i64 (y).k, .int .i64 (y).id, .string ⟨(y).ref.toArray⟩, .string ⟨(y).sku.toArray⟩, .int .i64 (y).qty, .int .i64 (y).amt, .int .i64 (y).o, .int .i64 (y).d, .int .i64 (y).c, .int .i64 (y).p, .int .i64 (y).q, v9]] w fun e w' => e = .returned (.int .i64 (applyE S A y)) ∧ ∃ (x' : RcA) (N : List Ent), x'.r = x.r ∧ Own W w' (rcB x' (applyI A y) :: (N ++ M)) ∧ RcIn W (N ++ G) x' (applyS S A y) (applyI A y) := by
  rw [← (coInv_step hI hlen y).1]
  rcases five y.k with hk | hk | hk | hk | ⟨h1, h2, h3, h4⟩
  · rw [show applyE S A y = placeE S.L y.ord by unfold applyE; rw [if_pos hk], show rawS S A y = { S with L := placeL S.L y.ord } by unfold rawS; rw [if_pos hk], show applyI A y = A by unfold applyI; rw [if_neg (by rw [hk]; simp)]]
    exact rcApp1_any y HO hG hm hy hI.ok hk
  · rw [show applyE S A y = stopE S.L y.o by unfold applyE; rw [if_neg (by omega), if_pos hk], show rawS S A y = { S with L := stopL S.L y.o } by unfold rawS; rw [if_neg (by omega), if_pos hk], show applyI A y = A by unfold applyI; rw [if_neg (by rw [hk]; simp)]]
    exact rcApp2_any y HO hG hm hy hI.ok hids hk
  · rw [show applyE S A y = replyE S.L y.o y.d y.c by unfold applyE; rw [if_neg (by omega), if_neg (by omega), if_pos hk], show rawS S A y = rawReplyS S y.o y.d y.c by unfold rawS; rw [if_neg (by omega), if_neg (by omega), if_pos hk], show applyI A y = A by unfold applyI; rw [if_neg (by rw [hk]; simp)]]
    exact rcApp3_any y HO hG hm hy hI.ok hids hlen hk
  · rw [show applyE S A y = accE A y.p y.q y.rs by unfold applyE; rw [if_neg (by omega), if_neg (by omega), if_neg (by omega), if_pos hk]]
    by_cases ha : accE A y.p y.q y.rs = 0
    · rw [show rawS S A y = { S with P := rawStmt S.P (byI A (A.put y.p y.q y.rs)) y.q 60 } by unfold rawS; rw [if_neg (by omega), if_neg (by omega), if_neg (by omega), if_pos hk, if_pos ha], show applyI A y = A.put y.p y.q y.rs by unfold applyI; rw [if_pos ⟨hk, ha⟩], ha]
      exact rcApp4yes_any y HO hG hm hy hk hI.inok hlen ha
    · rw [show rawS S A y = S by unfold rawS; rw [if_neg (by omega), if_neg (by omega), if_neg (by omega), if_pos hk, if_neg ha], show applyI A y = A by unfold applyI; rw [if_neg (fun h => ha h.2)]]
      exact rcApp4no_any y HO hG hm hy hk ha
  · rw [show applyE S A y = 2 by unfold applyE; rw [if_neg h1, if_neg h2, if_neg h3, if_neg h4], show rawS S A y = S by unfold rawS; rw [if_neg h1, if_neg h2, if_neg h3, if_neg h4], show applyI A y = A by unfold applyI; rw [if_neg (fun h => h4 h.1)]]
    exact rcApp5_any y HO hG hm hy h1 h2 h3 h4
end Go.Proofs.YtibabfedpdoofaaGreatDoor
namespace Go.Proofs.YtibabfedpdoofaaGreatDoor
open Go.RowKit Go.Own

def greatE (x : EntS) : Bool := decide (200 < x.ref.length) || decide (200 < x.sku.length) || decide (100 < x.rs.length)
set_option maxHeartbeats 4000000 in
set_option maxRecDepth 100000 in
theorem great20_any {W : World} {v : Value} (x : EntS) (h : IsRows W v x.rs) (h1 : x.ref.length ≤ maxLen) (h2 : x.sku.length ≤ maxLen) :
    Calls Tryz.prog 64 #[.agg #[.int .i64 (x).k, .int .i64 (x).id, .string ⟨(x).ref.toArray⟩, .string ⟨(x).sku.toArray⟩, .int .i64 (x).qty, .int .i64 (x).amt, .int .i64 (x).o, .int .i64 (x).d, .int .i64 (x).c, .int .i64 (x).p, .int .i64 (x).q, v]] W fun e w' => e = .returned (.bool (greatE x)) ∧ Below W.heap.size W w' := by
  obtain ⟨sp, sc, rfl, hm⟩ := h.slice
  unfold maxLen at h1 h2 hm
  have HO := Own.start W
  have HQ := Lib.hid (show greatE x = (decide (200 < x.ref.length) || decide (200 < x.sku.length) || decide (100 < x.rs.length)) from rfl)
  clear h
  generalize greatE x = z at *
  generalize hr : x.rs.length = n at *
  clear hr
  by_cases g1 : 200 < x.ref.length
  · have g1' : (200 : Int) < (x.ref.length : Int) := by omega
    go_enter Tryz.func64, Tryz.ntmps64
    go_wp2_with (first | (first | go_big_skip | ((with_reducible apply wpList_loadAll HO); exact rfl; exact rfl; (repeat (with_reducible (first | exact At.head _ | apply At.tail))); infer_instance; exact rfl; exact rfl; (simp only [Act.put, zA, zB, zC])) | ((with_reducible apply wpList_loadOne HO); exact rfl; exact rfl; (repeat (with_reducible (first | exact At.head _ | apply At.tail))); exact rfl; infer_instance; exact rfl; (simp only [Act.put, zA, zB, zC])) | ((with_reducible apply wpList_storeAll HO); exact rfl; exact rfl; exact rfl; (repeat (with_reducible (first | exact At.head _ | apply At.tail))); infer_instance; exact rfl; exact rfl; exact rfl; exact rfl; clear HO; intro w HO; (simp only [Act.put])) | (first | ((with_reducible apply wpList_boxAgg _ HO rfl); exact rfl; exact rfl; exact rfl; clear HO; intro b0 w HO; (simp only [Act.put, zA, zB, zC])) | ((with_reducible apply wpList_allocAgg _ HO rfl); exact rfl; infer_instance; exact rfl; clear HO; intro b0 w HO; (simp only [Act.put, zA, zB, zC])))) | ((with_reducible apply wpList_loadPart HO); exact rfl; exact rfl; (repeat (with_reducible (first | exact At.head _ | apply At.tail))); infer_instance; exact (Nat.le_of_ble_eq_true rfl); (simp only [List.drop_succ_cons, List.drop_zero, List.take_succ_cons, List.take_zero]; rfl); exact rfl; (simp only [Act.put, zA, zB, zC])))
    go_ret
    exact ⟨by rw [HQ.out]; simp [g1], HO.grown⟩
  · have g1' : decide ((200 : Int) < (x.ref.length : Int)) = false := by simp; omega
    by_cases g2 : 200 < x.sku.length
    · have g2' : (200 : Int) < (x.sku.length : Int) := by omega
      go_enter Tryz.func64, Tryz.ntmps64
      go_wp2_with (first | (first | go_big_skip | ((with_reducible apply wpList_loadAll HO); exact rfl; exact rfl; (repeat (with_reducible (first | exact At.head _ | apply At.tail))); infer_instance; exact rfl; exact rfl; (simp only [Act.put, zA, zB, zC])) | ((with_reducible apply wpList_loadOne HO); exact rfl; exact rfl; (repeat (with_reducible (first | exact At.head _ | apply At.tail))); exact rfl; infer_instance; exact rfl; (simp only [Act.put, zA, zB, zC])) | ((with_reducible apply wpList_storeAll HO); exact rfl; exact rfl; exact rfl; (repeat (with_reducible (first | exact At.head _ | apply At.tail))); infer_instance; exact rfl; exact rfl; exact rfl; exact rfl; clear HO; intro w HO; (simp only [Act.put])) | (first | ((with_reducible apply wpList_boxAgg _ HO rfl); exact rfl; exact rfl; exact rfl; clear HO; intro b0 w HO; (simp only [Act.put, zA, zB, zC])) | ((with_reducible apply wpList_allocAgg _ HO rfl); exact rfl; infer_instance; exact rfl; clear HO; intro b0 w HO; (simp only [Act.put, zA, zB, zC])))) | ((with_reducible apply wpList_loadPart HO); exact rfl; exact rfl; (repeat (with_reducible (first | exact At.head _ | apply At.tail))); infer_instance; exact (Nat.le_of_ble_eq_true rfl); (simp only [List.drop_succ_cons, List.drop_zero, List.take_succ_cons, List.take_zero]; rfl); exact rfl; (simp only [Act.put, zA, zB, zC])))
      go_ret
      exact ⟨by rw [HQ.out]; simp [g2], HO.grown⟩
    · have g2' : decide ((200 : Int) < (x.sku.length : Int)) = false := by simp; omega
      by_cases g3 : 100 < n
      · have g3' : (100 : Int) < (n : Int) := by omega
        go_enter Tryz.func64, Tryz.ntmps64
        go_wp2_with (first | (first | go_big_skip | ((with_reducible apply wpList_loadAll HO); exact rfl; exact rfl; (repeat (with_reducible (first | exact At.head _ | apply At.tail))); infer_instance; exact rfl; exact rfl; (simp only [Act.put, zA, zB, zC])) | ((with_reducible apply wpList_loadOne HO); exact rfl; exact rfl; (repeat (with_reducible (first | exact At.head _ | apply At.tail))); exact rfl; infer_instance; exact rfl; (simp only [Act.put, zA, zB, zC])) | ((with_reducible apply wpList_storeAll HO); exact rfl; exact rfl; exact rfl; (repeat (with_reducible (first | exact At.head _ | apply At.tail))); infer_instance; exact rfl; exact rfl; exact rfl; exact rfl; clear HO; intro w HO; (simp only [Act.put])) | (first | ((with_reducible apply wpList_boxAgg _ HO rfl); exact rfl; exact rfl; exact rfl; clear HO; intro b0 w HO; (simp only [Act.put, zA, zB, zC])) | ((with_reducible apply wpList_allocAgg _ HO rfl); exact rfl; infer_instance; exact rfl; clear HO; intro b0 w HO; (simp only [Act.put, zA, zB, zC])))) | ((with_reducible apply wpList_loadPart HO); exact rfl; exact rfl; (repeat (with_reducible (first | exact At.head _ | apply At.tail))); infer_instance; exact (Nat.le_of_ble_eq_true rfl); (simp only [List.drop_succ_cons, List.drop_zero, List.take_succ_cons, List.take_zero]; rfl); exact rfl; (simp only [Act.put, zA, zB, zC])))
        go_ret
        exact ⟨by rw [HQ.out]; simp [g3], HO.grown⟩
      · have g3' : decide ((100 : Int) < (n : Int)) = false := by simp; omega
        go_enter Tryz.func64, Tryz.ntmps64
        go_wp2_with (first | (first | go_big_skip | ((with_reducible apply wpList_loadAll HO); exact rfl; exact rfl; (repeat (with_reducible (first | exact At.head _ | apply At.tail))); infer_instance; exact rfl; exact rfl; (simp only [Act.put, zA, zB, zC])) | ((with_reducible apply wpList_loadOne HO); exact rfl; exact rfl; (repeat (with_reducible (first | exact At.head _ | apply At.tail))); exact rfl; infer_instance; exact rfl; (simp only [Act.put, zA, zB, zC])) | ((with_reducible apply wpList_storeAll HO); exact rfl; exact rfl; exact rfl; (repeat (with_reducible (first | exact At.head _ | apply At.tail))); infer_instance; exact rfl; exact rfl; exact rfl; exact rfl; clear HO; intro w HO; (simp only [Act.put])) | (first | ((with_reducible apply wpList_boxAgg _ HO rfl); exact rfl; exact rfl; exact rfl; clear HO; intro b0 w HO; (simp only [Act.put, zA, zB, zC])) | ((with_reducible apply wpList_allocAgg _ HO rfl); exact rfl; infer_instance; exact rfl; clear HO; intro b0 w HO; (simp only [Act.put, zA, zB, zC])))) | ((with_reducible apply wpList_loadPart HO); exact rfl; exact rfl; (repeat (with_reducible (first | exact At.head _ | apply At.tail))); infer_instance; exact (Nat.le_of_ble_eq_true rfl); (simp only [List.drop_succ_cons, List.drop_zero, List.take_succ_cons, List.take_zero]; rfl); exact rfl; (simp only [Act.put, zA, zB, zC])))
        go_ret
        exact ⟨by rw [HQ.out]; simp [g1, g2, g3], HO.grown⟩
end Go.Proofs.YtibabfedpdoofaaGreatDoor
namespace Go.Proofs.YtibabfedpdoofaaGreatDoor
open Go.RowKit Go.Own

/-- An entry with its rows' slice. -/
structure EntI where
  x : EntS
  v : Value
def entC (e : EntI) : List Value := [.int .i64 e.x.k, .int .i64 e.x.id, .string ⟨e.x.ref.toArray⟩, .string ⟨e.x.sku.toArray⟩, .int .i64 e.x.qty, .int .i64 e.x.amt, .int .i64 e.x.o, .int .i64 e.x.d, .int .i64 e.x.c, .int .i64 e.x.p, .int .i64 e.x.q, e.v]
/-- Entries in memory. -/
structure IsEnts (W : World) (v : Value) (es : List EntI) : Prop where
  l : IsL W 12 v (es.map entC)
  r : ∀ e ∈ es, IsRows W e.v e.x.rs ∧ e.x.ref.length ≤ maxLen ∧ e.x.sku.length ≤ maxLen ∧ inI e.x.o = true
theorem IsEnts.below {W w : World} {v : Value} {es : List EntI} (h : IsEnts W v es) (hb : Below W.heap.size W w) : IsEnts w v es := ⟨h.l.below hb h.l.lt, fun e he => ⟨(h.r e he).1.below hb (h.r e he).1.lt, (h.r e he).2⟩⟩
def great1 (e : EntI) : Bool := greatE e.x || decide (60 < e.x.rs.length)
def greatL (es : List EntI) (most : Int) : Bool := es.any great1 || decide (most < (es.length : Int))

set_option maxHeartbeats 8000000 in
set_option maxRecDepth 100000 in
theorem great24_any {W : World} {v : Value} {es : List EntI} (most : Int) (h : IsEnts W v es) : Calls Tryz.prog 11 #[v, .int .i64 most] W fun e w' => e = .returned (.bool (greatL es most)) ∧ Below W.heap.size W w' := by
  have HH := Lib.hid h.l
  have HR := Lib.hid h
  obtain ⟨sp, sc, rfl, hmx⟩ := h.l.slice
  rw [List.length_map] at hmx HH HR ⊢
  have hmx' : (es.length : Int) ≤ 9223372036854775807 := by unfold maxLen at hmx; omega
  have HO := Own.start W
  generalize hg : greatL es most = g0
  replace hg := Lib.hid hg
  clear h
  go_enter Tryz.func11, Tryz.ntmps11
  go_wp2_with fail
  go_loopw [5] (fun i wr => ∃ j : Nat, j ≤ es.length ∧ i = .int .i64 (j : Int) ∧ (es.take j).any great1 = false ∧ Own W wr []) (fun i _ => es.length - (intOf i).toNat)
  case atStart => exact ⟨0, by omega, rfl, rfl, HO⟩
  case round =>
    clear HO
    obtain ⟨j, hj, rfl, hnf, HO⟩ := hrel
    by_cases hjl : j < es.length
    · have hjI : (j : Int) < (es.length : Int) := by omega
      obtain ⟨a, rfl, hst⟩ := oldAt HH.out rfl hjl
      have hr := HR.out.r _ (List.getElem_mem hjl)
      have HX := Lib.hid (show great1 es[j] = false → (es.take (j + 1)).any great1 = false from fun hx => by
        rw [List.take_succ_eq_append_getElem hjl, List.any_append, hnf]
        simpa using hx)
      have HY := Lib.hid (show great1 es[j] = true → greatL es most = true from fun hx => by
        unfold greatL
        rw [List.any_eq_true.2 ⟨es[j], List.getElem_mem hjl, hx⟩, Bool.true_or])
      clear hnf
      generalize es[j] = y at *
      obtain ⟨x, u⟩ := y
      obtain ⟨q1, c1, hu, hq⟩ := hr.1.slice
      simp only at hu hr
      subst hu
      have G := fun w (hb : Below W.heap.size W w) => great20_any x (hr.1.below hb hr.1.lt) hr.2.1 hr.2.2.1
      unfold entC at hst
      have hz := Lib.hid (show great1 ⟨x, .slice q1 x.rs.length c1⟩ = (greatE x || decide (60 < x.rs.length)) from rfl)
      have h11 := Lib.hid (fun w' (hb : Below W.heap.size W w') => hst w' hb 11 _ rfl)
      replace hst := Lib.hid hst
      clear hr
      generalize greatE x = ge at *
      cases ge with
      | true =>
        obtain rfl : g0 = true := hg.out.symm.trans (HY.out hz.out)
        clear HX HY hz
        go_wp2_with (first | go_big_skip | ((with_reducible apply wpList_loadAt HO); exact rfl; exact rfl; exact (fun w' h1 => hst.out w' h1.grown); infer_instance; exact rfl; exact rfl; (simp only [Act.put, zA, zB, zC])) | ((with_reducible apply wpList_loadAt1 HO); exact rfl; exact rfl; exact (fun w' h1 => h11.out w' h1.grown); infer_instance; exact rfl; (simp only [Act.put, zA, zB, zC])) | (go_at_call 64; go_must ((with_reducible refine (G _ HO.grown).mono ?_); rintro e w ⟨rfl, hb⟩; replace HO := HO.call hb; clear hb)))
        go_ret
        exact ⟨rfl, HO.grown⟩
      | false =>
        rw [Bool.false_or] at hz
        by_cases h60 : 60 < x.rs.length
        · have h60I : (60 : Int) < (x.rs.length : Int) := by omega
          obtain rfl : g0 = true := hg.out.symm.trans (HY.out (hz.out.trans (decide_eq_true h60)))
          clear HX HY hz h60
          go_wp2_with (first | go_big_skip | ((with_reducible apply wpList_loadAt HO); exact rfl; exact rfl; exact (fun w' h1 => hst.out w' h1.grown); infer_instance; exact rfl; exact rfl; (simp only [Act.put, zA, zB, zC])) | ((with_reducible apply wpList_loadAt1 HO); exact rfl; exact rfl; exact (fun w' h1 => h11.out w' h1.grown); infer_instance; exact rfl; (simp only [Act.put, zA, zB, zC])) | (go_at_call 64; go_must ((with_reducible refine (G _ HO.grown).mono ?_); rintro e w ⟨rfl, hb⟩; replace HO := HO.call hb; clear hb)))
          go_ret
          exact ⟨rfl, HO.grown⟩
        · have h60I : ¬ (60 : Int) < (x.rs.length : Int) := by omega
          have HZ := Lib.hid (HX.out (hz.out.trans (decide_eq_false h60)))
          clear HX HY hz h60
          go_wp2_with (first | go_big_skip | ((with_reducible apply wpList_loadAt HO); exact rfl; exact rfl; exact (fun w' h1 => hst.out w' h1.grown); infer_instance; exact rfl; exact rfl; (simp only [Act.put, zA, zB, zC])) | ((with_reducible apply wpList_loadAt1 HO); exact rfl; exact rfl; exact (fun w' h1 => h11.out w' h1.grown); infer_instance; exact rfl; (simp only [Act.put, zA, zB, zC])) | (go_at_call 64; go_must ((with_reducible refine (G _ HO.grown).mono ?_); rintro e w ⟨rfl, hb⟩; replace HO := HO.call hb; clear hb)))
          go_roundw
          case rel => exact ⟨j + 1, by omega, by go_num, HZ.out, HO⟩
          case measure => simp [intOf] <;> omega
    · obtain rfl : j = es.length := by omega
      rw [List.take_length] at hnf
      have HQ := Lib.hid (show greatL es most = decide (most < (es.length : Int)) by unfold greatL; rw [hnf, Bool.false_or])
      obtain rfl : g0 = decide (most < (es.length : Int)) := hg.out.symm.trans HQ.out
      clear hnf
      go_wp2_with fail
      go_ret
      exact ⟨rfl, HO.grown⟩
end Go.Proofs.YtibabfedpdoofaaGreatDoor
namespace Go.Proofs.YtibabfedpdoofaaGreatDoor
open Go.RowKit Go.Own Go.Maps

/-- Entries that stand in old memory, or in some pieces of one's own. -/
structure EntsIn (W : World) (G : List Ent) (v : Value) (es : List EntI) : Prop where
  l : ∀ w' : World, Below W.heap.size W w' → (∀ e ∈ G, e.F w') → IsL w' 12 v (es.map entC)
  r : ∀ e ∈ es, EntF W G e.x e.v
theorem IsEnts.into {W : World} {v : Value} {es : List EntI} (h : IsEnts W v es) (G : List Ent) : EntsIn W G v es :=
  ⟨fun _ hb _ => h.l.below hb h.l.lt, fun e he => ⟨.old (h.r e he).1 G, (h.r e he).2.1, (h.r e he).2.2.1, (h.r e he).2.2.2⟩⟩
theorem sub_tail (X Y : List Ent) (Z : Ent) (N M : List Ent) : M.Sublist (X ++ (Y ++ (Z :: (N ++ M)))) :=
  (((List.sublist_append_right N M).cons Z).trans (List.sublist_append_right Y _)).trans (List.sublist_append_right X _)
theorem perm_out (X Y : List Ent) (Z : Ent) (L : List Ent) : (X ++ (Y ++ (Z :: L))).Perm (Z :: (X ++ (Y ++ L))) := by
  have h := List.perm_middle (a := Z) (l₁ := X ++ Y) (l₂ := L)
  simpa [List.append_assoc] using h
theorem perm_in (X Y : List Ent) (Z : Ent) (N' N M : List Ent) : (Z :: (N' ++ (X ++ (Y ++ (N ++ M))))).Perm (X ++ (Y ++ (Z :: ((N' ++ N) ++ M)))) := by
  have h1 : (N' ++ ((X ++ Y) ++ (N ++ M))).Perm ((X ++ Y) ++ (N' ++ (N ++ M))) := List.perm_append_comm_assoc _ _ _
  have h2 := (h1.cons Z).trans (List.perm_middle (a := Z) (l₁ := X ++ Y) (l₂ := N' ++ (N ++ M))).symm
  simpa [List.append_assoc] using h2

set_option maxHeartbeats 16000000 in
set_option maxRecDepth 100000 in
theorem cored_any {W w : World} {M G : List Ent} {v : Value} {es : List EntI} (HO : Own W w M) (hm : ∀ e ∈ G, e ∈ M) (hE : EntsIn W G v es) (hL : LaidE W) (hlen : es.length ≤ 1000) :
    Calls Tryz.prog 14 #[v] w fun e w' => ∃ (a : CoA) (i : InA) (x : RcA) (N : List Ent), e = .returned (.tuple #[.pointer (some ⟨a.c, 0, none⟩), .pointer (some ⟨x.r, 0, none⟩), .bool true]) ∧
      Own W w' (coPs a (coreOf (es.map (·.x))).1 i (coreOf (es.map (·.x))).2 ++ (inPs i (coreOf (es.map (·.x))).2 ++ (rcB x (coreOf (es.map (·.x))).2 :: (N ++ M)))) ∧ RcIn W (N ++ G) x (coreOf (es.map (·.x))).1 (coreOf (es.map (·.x))).2 := by
  obtain ⟨sp, sc, rfl, hmx⟩ := (hE.l w HO.grown (fun e he => HO.has _ (hm e he))).slice
  rw [List.length_map] at hmx hE ⊢
  have HE := Lib.hid hE
  have HM := Lib.hid hm
  clear hE hm
  go_enter Tryz.func14, Tryz.ntmps14
  go_wp2_with (first | (go_at_call 25; go_must ((with_reducible refine (coNew_any _).mono ?_); rintro e w ⟨a, rfl, HO1⟩; replace HO := HO.lift HO1; clear HO1)) | (go_at_call 26; go_must ((with_reducible refine (rcNew_any _).mono ?_); rintro e w ⟨r, rfl, HO1⟩; replace HO := HO.lift HO1; clear HO1)))
  have HI : Own W w (coPs a ⟨[], []⟩ inNil zeroI ++ (inPs inNil zeroI ++ (rcB (rcNil r) zeroI :: ([] ++ M)))) := by
    have h1 := HO.perm (perm_out (coPs a ⟨[], []⟩ inNil zeroI) (inPs inNil zeroI) (rcB (rcNil r) zeroI) M).symm
    exact h1
  clear HO
  go_loopw [7] (fun iv wr => ∃ (j : Nat) (a' : CoA) (i' : InA) (x' : RcA) (N : List Ent), j ≤ es.length ∧ iv = .int .i64 (j : Int) ∧ a'.c = a.c ∧ x'.r = r ∧ RcIn W (N ++ G) x' (coreOf ((es.map (·.x)).take j)).1 (coreOf ((es.map (·.x)).take j)).2 ∧
    Own W wr (coPs a' (coreOf ((es.map (·.x)).take j)).1 i' (coreOf ((es.map (·.x)).take j)).2 ++ (inPs i' (coreOf ((es.map (·.x)).take j)).2 ++ (rcB x' (coreOf ((es.map (·.x)).take j)).2 :: (N ++ M))))) (fun iv _ => es.length - (intOf iv).toNat)
  case atStart => exact ⟨0, a, inNil, rcNil r, [], by omega, rfl, rfl, rfl, (rcNil_in W r).mono (by simp), HI⟩
  case round =>
    clear HI
    obtain ⟨j, a', i', x', N, hj, rfl, hac, hxr, hR, HO⟩ := hrel
    by_cases hjl : j < es.length
    · have hjI : (j : Int) < (es.length : Int) := by omega
      have hml : es.length ≤ 9223372036854775807 := by omega
      obtain ⟨q, rfl⟩ : ∃ q, sp = some q := by
        rcases sp with _ | q
        · have := (HE.out.l wr HO.grown (fun e he => HO.has e (by have h9 := HM.out e he; simp [h9]))).at (by simp; omega)
          obtain ⟨_, _, h, _⟩ := this
          cases h
        · exact ⟨q, rfl⟩
      have HI := Lib.hid (fun (w' : World) (hb : Below W.heap.size W w') (hF : ∀ e ∈ M, e.F w') => isL_cell (HE.out.l w' hb (fun e he => hF e (HM.out e he))) (j := j) (by simpa using hjl))
      simp only [List.getElem_map] at HI
      have hent := HE.out.r _ (List.getElem_mem hjl)
      obtain ⟨ok1, ok2, ok3⟩ := coreOf_ok (es.map (·.x)) j (by simp; omega)
      have inv := coreOf_inv (es.map (·.x)) (by simpa using hlen) j (by simp; omega)
      have ids := coreOf_ids (es.map (·.x)) j (by simp; omega)
      have hsn := coreOf_snoc (es.map (·.x)) (j := j) (by simpa using hjl)
      rw [List.getElem_map] at hsn
      have hS : (coreOf ((es.map (·.x)).take (j + 1))).1 = applyS (coreOf ((es.map (·.x)).take j)).1 (coreOf ((es.map (·.x)).take j)).2 es[j].x := by rw [hsn]
      have hA : (coreOf ((es.map (·.x)).take (j + 1))).2 = applyI (coreOf ((es.map (·.x)).take j)).2 es[j].x := by rw [hsn]
      have hMG : ∀ e ∈ G, e ∈ rcB x' (coreOf ((es.map (·.x)).take j)).2 :: (N ++ M) := fun e he => List.mem_cons_of_mem _ (List.mem_append_right _ (HM.out e he))
      generalize es[j] = y at *
      obtain ⟨x, u⟩ := y
      dsimp only at hS hA hent
      unfold entC at HI
      have AP := Lib.hid (fun (w : World) (h : Own W w (coPs a' (coreOf ((es.map (·.x)).take j)).1 i' (coreOf ((es.map (·.x)).take j)).2 ++ (inPs i' (coreOf ((es.map (·.x)).take j)).2 ++ (rcB x' (coreOf ((es.map (·.x)).take j)).2 :: (N ++ M))))) => coApply_any x h (hent.into hMG) ok3 ok1 (by omega) hL)
      have RP := Lib.hid (fun (w : World) (X Y : List Ent) (h : Own W w (X ++ (Y ++ (rcB x' (coreOf ((es.map (·.x)).take j)).2 :: (N ++ M))))) => rcApply_any (G := N ++ G) (M := X ++ (Y ++ (N ++ M))) x (h.perm (perm_out X Y _ _)) hR (fun e he => by
        rcases List.mem_append.1 he with he | he
        · exact List.mem_append_right _ (List.mem_append_right _ (List.mem_append_left _ he))
        · exact List.mem_append_right _ (List.mem_append_right _ (List.mem_append_right _ (HM.out e he)))) ⟨fun w' hb hF => hent.rows w' hb (fun e he => hF e (List.mem_append_right _ he)), hent.ref, hent.sku, hent.o⟩ inv ids (by omega))
      rw [← hS, ← hA, hac] at AP
      rw [← hS, ← hA, hxr] at RP
      generalize applyE (coreOf ((es.map (·.x)).take j)).1 (coreOf ((es.map (·.x)).take j)).2 x = ex at *
      clear hS hA hsn ok1 ok2 ok3 hent inv ids hMG hR
      go_upto_region 5 with fail
      refine region_schedO (M) [(0, true), (1, true), (2, true), (3, true), (4, true), (6, true), (7, true), (8, true), (9, true), (10, true), (5, false), (11, false), (12, true)] HO (sub_tail _ _ _ _ _) (by kernel_rfl) (by kernel_rfl) ?_
      clear HO
      intro w HO
      repeat (first | ((with_reducible apply wpHeld_loadAt); exact rfl; exact rfl; exact rfl; exact (fun w' hw => HI.out w' (hw _ List.mem_cons_self) (fun e he => hw _ (.tail _ he))); infer_instance; exact rfl; exact rfl; (simp only [Act.put, zA, zB, zC])) | ((with_reducible apply wpHeld_pure); exact rfl; exact rfl; (intro w'; go_simp; try with_reducible rfl); (simp only [Act.put, zA, zB, zC])))
      ((with_reducible apply wpHeld_loud); exact rfl; go_wp2_with ((go_at_call 27; go_must ((with_reducible refine (AP.out _ HO).mono ?_); clear AP HO; rintro e w ⟨rfl, u', v9, i9, -, HO⟩))))
      refine ⟨HO.heldO (sub_tail _ _ _ _ _), ?_⟩
      ((with_reducible apply wpHeld_loud); exact rfl; go_wp2_with ((go_at_call 28; go_must ((have h9 := RP.out _ _ _ HO); (with_reducible refine h9.mono ?_); clear h9 HO; rintro e w ⟨rfl, x9, N9, hr9, HO, hR9⟩))))
      replace HO := HO.perm (perm_in _ _ _ _ _ _)
      refine ⟨HO.heldO (sub_tail _ _ _ _ _), ?_⟩
      ((with_reducible apply wpHeld_pure); exact rfl; exact rfl; (intro w'; go_simp; try with_reducible rfl); (simp only [Act.put, zA, zB, zC]))
      refine wpHeld_end ?_
      go_wp2_with fail
      go_roundw
      case rel => exact ⟨j + 1, ⟨a.c, v9, a'.k, u', a'.pm, a'.bm⟩, i9, x9, N9 ++ N, by omega, by go_num, rfl, hr9, by rw [List.append_assoc]; exact hR9, HO⟩
      case measure => simp [intOf] <;> omega
    · obtain rfl : j = es.length := by omega
      rw [show es.length = (es.map (·.x)).length by simp, List.take_length] at HO hR
      have HR := Lib.hid hR
      clear hR
      subst hxr
      go_wp2_with fail
      go_ret3
      exact ⟨⟨a.c, a'.v, a'.k, a'.u, a'.pm, a'.bm⟩, i', x', N, rfl, by rw [← hac]; exact HO, HR.out⟩
end Go.Proofs.YtibabfedpdoofaaGreatDoor
namespace Go.Own
open Go.RowKit Go.ChangeShapes Go.WideShapes

theorem trodAll_below {H : Type} {enc : TypeId × Value → H} {P : Program} (hl : laidOutB P = true) {W W' : World} (hb : Below W.heap.size W W') :
    ∀ {ts : List TypeId} {vs : List Value} {ds : List (DataW H)} {ps : List MemPlace}, (∀ t ∈ ts, P.readableRec t = true ∧ t < P.types.size) → (∀ p ∈ ps, p.block < W.heap.size) →
      DataW.TrodAll enc P W 0 (fun _ => true) true ts vs ds ps → DataW.TrodAll enc P W' 0 (fun b => decide (b < W.heap.size)) true ts vs ds ps
  | [], _, _, _, _, _, h => by
    obtain ⟨rfl, rfl, rfl⟩ := trodAll_nil h
    exact trodAll_mk0
  | t :: ts, _, _, _, hr, hp, h => by
    obtain ⟨v, vs1, d, ds1, a, b, rfl, rfl, rfl, h1, h2⟩ := trodAll_cons h
    have ht := hr t List.mem_cons_self
    exact trodAll_cons_mk (Below.trod hl ht.1 ht.2 h1 hb (fun x hx => hp x (List.mem_append_left _ hx)))
      (trodAll_below hl hb (fun u hu => hr u (List.mem_cons_of_mem _ hu)) (fun x hx => hp x (List.mem_append_right _ hx)) h2)

/-- A law's post, from what the walk says: it returns true, and nothing that was there has changed. -/
theorem law_post {H : Type} {enc : TypeId × Value → H} {P : Program} {f : Func} {s : ChangeSpec} {W W' : World} {args : Array Value} {ds gs : List (DataW H)} {before : List MemPlace} {tb : TypeId}
    (hl : laidOutB P = true) (hrd : (f.params.toList.all fun t => P.readableRec t && decide (t < P.types.size)) = true) (hres : f.resultTypes = #[tb]) (htb : P.underlying tb = some .bool) (hvars : s.vars = [])
    (hW : DataW.Whole enc P f.params.toList s.vars false W args.toList ds gs before) (hfn : s.fn H (ds ++ gs) = { results := [.lit (.bool true)], args := ds }) (hb : Below W.heap.size W W') :
    s.post enc P f false true false false W args (.bool true) W' := by
  have hlt := hW.lt
  have hW0 := hW
  obtain ⟨p, q, hA, hV, rfl, hfz, hnd⟩ := hW
  rw [hvars] at hV
  obtain ⟨rfl, rfl⟩ := trodVars_none hV
  have hr : ∀ t ∈ f.params.toList, P.readableRec t = true ∧ t < P.types.size := fun t ht => by
    have := List.all_eq_true.1 hrd t ht
    simpa using this
  refine ⟨ds, [], _, [], p, [], hW0, ?_, ?_, ?_, hb.frame _, fun h => by cases h⟩
  · rw [hfn, hres]
    exact trodAll_mk1 (shut_bool htb true)
  · rw [hfn]
    exact trodAll_below hl hb hr (fun x hx => hlt x (List.mem_append_left _ hx)) hA
  · rw [hfn, hvars]
    rfl
theorem fld {H : Type} {enc : TypeId × Value → H} {P : Program} {w : World} {base : Nat} {spare : Nat → Bool} {held : Bool} {fuel : Nat} {t : TypeId} {fs : Array Field} {cs : List Value} {x : DataW H × List MemPlace}
    (ht : P.underlying t = some (.struct fs)) (h : DataW.trod enc P w base spare held fuel t cs = some x) (j : Nat) (f : Field) (hj : fs[j]? = some f) :
    ∃ n y, DataW.trod enc P w base spare held n f.type ((cs.drop f.offset).take (P.cellsOf f.type)) = some y := by
  obtain ⟨xs, n, _, _, _, hlen, hg⟩ := DataW.trod_struct ht h
  have hlt : j < xs.length := by rw [hlen]; exact (Array.getElem?_eq_some_iff.1 hj).1
  exact ⟨n, xs[j], by rw [hg j f hj]; exact List.getElem?_eq_getElem hlt⟩
end Go.Own
namespace Go.Own
open Go.RowKit Go.Maps Go.WideElems Go.WideShapes

/-- A table at any place of the list. -/
theorem tab_of {P : Program} {W : World} {name : String} {k : IntKind} {zs : List Int} {rest : List (String × DataW Unit)} {ps : List MemPlace} {g : Nat} {t e : TypeId} {n : Nat}
    (hg : P.globalNamed name = some g) (hty : (P.globals[g]?).map (·.type) = some t) (ht : P.underlying t = some (.array n e)) (he : P.underlying e = some (.int k)) (hce : P.cellsOf e = 1) (hct : P.cellsOf t = n)
    (h : DataW.LaidVars P W ((name, Lib.tabData k zs) :: rest) ps) : Lib.TabIs P W name k zs := by
  obtain ⟨g', t', cs, fuel, p, q, hg', ht', hvar, hd, _, _⟩ := h
  obtain rfl := Option.some.inj (hg.symm.trans hg')
  obtain rfl := Option.some.inj (hty.symm.trans ht')
  unfold Lib.TabIs
  rw [hvar, ← Lib.cells_of_tab ht he hce hct hd]
theorem tail_of {P : Program} {W : World} {x : String × DataW Unit} {rest : List (String × DataW Unit)} {ps : List MemPlace} (h : DataW.LaidVars P W (x :: rest) ps) : ∃ qs, DataW.LaidVars P W rest qs := by
  obtain ⟨_, _, _, _, _, q, _, _, _, _, h, _⟩ := h
  exact ⟨q, h⟩
/-- A map of texts to numbers that is laid, as a map's own piece. -/
theorem map_laid {P : Program} {W : World} {k e : TypeId} {kd : IntKind} {fuel b : Nat} {es : Array MapEntry} {clock : Nat} {sp : Nat → Bool} {held : Bool} {base : Nat} {E : List (Lit × DataW Unit)} {f : Lit → Option Value} (K : WideMaps.KeyLaw P k)
    (he : P.underlying e = some (.int kd)) (hb : W.heap[b]? = some (.map es clock)) (F : Fit P k (elemAt (fun _ => ()) P W base sp held fuel e) es clock)
    (hE : E = (es.toList.map (rg P k (elemAt (fun _ => ()) P W base sp held fuel e))).foldr DataW.insert [])
    (h1 : ∀ l d, (l, d) ∈ E → ∃ n, d = .lit (.int kd n) ∧ f l = some (.int kd n)) (h2 : ∀ l, (f l).isSome = true → ∃ d, (l, d) ∈ E) : (mapE P k b es.size f).F W := by
  have key : ∀ x ∈ es.toList, ∃ l n, keyOf P k x.key = some l ∧ x.val = .int kd n ∧ f l = some (.int kd n) ∧ rd (H := Value) P k tokR x = some (l, .held (.int kd n)) ∧ (l, DataW.lit (.int kd n)) ∈ E := fun x hx => by
    obtain ⟨y, hy⟩ := F.reads x hx
    have hk := rd_key hy
    have hm : y ∈ E := by
      rw [hE]
      refine (sorted_perm _).symm.subset (List.mem_map.2 ⟨x, hx, rg_of hy⟩)
    obtain ⟨n, hd, hf⟩ := h1 y.1 y.2 hm
    have hv : x.val = .int kd n := by
      unfold rd at hy
      rw [hk] at hy
      simp only [Option.bind_some, Option.map_eq_some_iff] at hy
      obtain ⟨z, hz, hzy⟩ := hy
      have hz1 : z.1 = y.2 := congrArg Prod.snd hzy
      unfold elemAt at hz
      split at hz
      · rename_i hform
        obtain ⟨n', e1, e2, _⟩ := DataW.trod_int he hz
        rw [← hz1, e2] at hd
        simp only [DataW.lit.injEq, Lit.int.injEq, true_and] at hd
        subst hd
        unfold Value.formed at hform
        rw [he] at hform
        cases hxv : x.val <;> rw [hxv] at e1 hform <;> simp_all [Value.cells]
      · cases hz
    refine ⟨y.1, n, hk, hv, hf, ?_, by rw [← hd]; exact hm⟩
    unfold rd
    rw [hk, hv]
    rfl
  have F' : Fit P k (tokR) es clock := ⟨F.size, F.stamped, fun x hx => by
    obtain ⟨l, n, _, _, _, h, _⟩ := key x hx
    exact ⟨_, h⟩⟩
  refine ⟨_, ⟨es, clock, hb, F', Nat.le_refl _, rfl⟩, ⟨_, rfl⟩, fun l hl z => ?_⟩
  have hs := atKey_sorted (es.toList.map (rg P k tokR)) (Go.ChangeMaps.rising_of_pairwise _ (Go.ChangeMaps.sorted_sorted _ (F'.strKeys K) (F'.apart K))) l hl
  by_cases hh : ∃ x ∈ es.toList, keyOf P k x.key = some l
  · obtain ⟨x, hx, hk⟩ := hh
    obtain ⟨l', n, hk', _, hf, hr, _⟩ := key x hx
    obtain rfl := Option.some.inj (hk.symm.trans hk')
    rw [hf]
    exact hs.2 (l, .held (.int kd n)) (List.mem_map.2 ⟨x, hx, rg_of hr⟩) rfl z
  · have hn : f l = none := by
      cases hfl : f l with
      | none => rfl
      | some v =>
        obtain ⟨d, hd⟩ := h2 l (by rw [hfl]; rfl)
        rw [hE] at hd
        obtain ⟨x, hx, hxe⟩ := List.mem_map.1 ((sorted_perm _).subset hd)
        obtain ⟨y, hy⟩ := F.reads x hx
        rw [rg_of hy] at hxe
        subst hxe
        exact absurd ⟨x, hx, rd_key hy⟩ hh
    rw [hn]
    refine hs.1 (fun p hp => ?_) z
    obtain ⟨x, hx, rfl⟩ := List.mem_map.1 hp
    obtain ⟨l', n, hk', _, _, hr, _⟩ := key x hx
    rw [rg_of hr]
    intro e
    exact hh ⟨x, hx, by rw [hk']; exact congrArg some e⟩
end Go.Own
namespace Go.Proofs.YtibabfedpdoofaaGreatDoor
open Go.RowKit Go.Own Go.Maps Go.WideElems Go.ChangeShapes Go.WideShapes

theorem own : ownKnob Tryz.prog.godebug = none := by kernel_rfl
theorem laidOut : laidOutB Tryz.prog = true := by kernel_rfl
theorem gTab : Tryz.prog.globalNamed "consignor/keys.parties" = some 2 := by kernel_rfl
theorem gTabType : (Tryz.prog.globals[2]?).map (·.type) = some 70 := by kernel_rfl
theorem gDeed : Tryz.prog.globalNamed "consignor/keys.deeds" = some 0 := by kernel_rfl
theorem gDeedType : (Tryz.prog.globals[0]?).map (·.type) = some 242 := by kernel_rfl
theorem gPowType : (Tryz.prog.globals[1]?).map (·.type) = some 262 := by kernel_rfl
theorem cellsTab : Tryz.prog.cellsOf 70 = 6 := by kernel_rfl
theorem cellsPow : Tryz.prog.cellsOf 262 = 20 := by kernel_rfl
theorem cellsInt : Tryz.prog.cellsOf 3 = 1 := by kernel_rfl
theorem cellsU64 : Tryz.prog.cellsOf 226 = 1 := by kernel_rfl
theorem deeds_met {W : World} {ps : List MemPlace} (h : DataW.LaidVars Tryz.prog W [("consignor/keys.deeds", Rows.laid_consignor_keys_deeds)] ps) : DeedsLaid W := by
  obtain ⟨g', t', cs, fuel, p, q, hg', ht', hvar, hd, _, _⟩ := h
  obtain rfl := Option.some.inj (gDeed.symm.trans hg')
  obtain rfl := Option.some.inj (gDeedType.symm.trans ht')
  have hc := fun i v (hi : cs[i]? = some v) => World.var?_cell gDeed hvar i ▸ hi
  rcases open_map Tryz.underlying242 hd with ⟨_, h2⟩ | ⟨b, es, clock, n, rfl, hcs, hb, _, F, hx⟩
  · cases h2
  · have h0 : cs[0]? = some (.map (some b)) := by
      have := congrArg (·[0]?) hcs
      simpa using this
    have hcell : W.cell? ⟨0, 0, none⟩ = some (.map (some b)) := by rw [World.var?_cell gDeed hvar 0]; exact h0
    have hE := congrArg Prod.fst hx
    simp only [Rows.laid_consignor_keys_deeds, DataW.map.injEq] at hE
    refine ⟨World.block_lt_of_cell? W _ hcell, b, es.size, hcell, map_laid (WideMaps.string_law Tryz.underlying9) Tryz.underlying3 hb F hE ?_ ?_⟩
    · intro l d hm
      simp only [List.mem_cons, List.not_mem_nil, or_false, Prod.mk.injEq] at hm
      rcases hm with ⟨rfl, rfl⟩ | ⟨rfl, rfl⟩ | ⟨rfl, rfl⟩ | ⟨rfl, rfl⟩ | ⟨rfl, rfl⟩ | ⟨rfl, rfl⟩
      all_goals exact ⟨_, rfl, rfl⟩
    · intro l hl
      obtain ⟨v, hv⟩ := Option.isSome_iff_exists.1 hl
      obtain ⟨d, h0, h5, rfl, rfl⟩ := deedsF_inv hv
      have : d = 0 ∨ d = 1 ∨ d = 2 ∨ d = 3 ∨ d = 4 ∨ d = 5 := by omega
      rcases this with rfl | rfl | rfl | rfl | rfl | rfl
      all_goals exact ⟨_, by simp [deedL]; rfl⟩
/-- What the rows' list gives. -/
theorem laidE_of {W : World} (h : laidMetH Tryz.prog [("math/bits.deBruijn32tab", Rows.laid_math_bits_deBruijn32tab), ("math/bits.deBruijn64tab", Rows.laid_math_bits_deBruijn64tab), ("internal/strconv.uint64pow10", Rows.laid_internal_strconv_uint64pow10), ("consignor/keys.parties", Rows.laid_consignor_keys_parties), ("consignor/keys.deeds", Rows.laid_consignor_keys_deeds)] W) : LaidE W := by
  obtain ⟨ps, h, _⟩ := (h : laidMet Tryz.prog _ W)
  obtain ⟨_, h⟩ := tail_of h
  obtain ⟨_, h⟩ := tail_of h
  have T : Lib.TabIs Tryz.prog W "internal/strconv.uint64pow10" .u64 Lib.pow10Tab := tab_of gPow gPowType Tryz.underlying262 Tryz.underlying226 cellsU64 cellsPow h
  obtain ⟨_, h⟩ := tail_of h
  have P : Lib.TabIs Tryz.prog W "consignor/keys.parties" .i64 [1, 0, 2, 1, 0, 2] := tab_of gTab gTabType Tryz.underlying70 Tryz.underlying3 cellsInt cellsTab h
  obtain ⟨_, h⟩ := tail_of h
  have c0 : W.cell? ⟨2, 0, none⟩ = some (.int .i64 1) := P.cell gTab 0 (by decide)
  exact ⟨⟨World.block_lt_of_cell? W _ c0, c0, P.cell gTab 1 (by decide), P.cell gTab 2 (by decide), P.cell gTab 3 (by decide), P.cell gTab 4 (by decide), P.cell gTab 5 (by decide)⟩, deeds_met h, T⟩
/-- A world for a witness: the settled one, tables and map holding what their initialisers lay. -/
def litVal : DataW Unit → Value
  | .lit (.int k n) => .int k n
  | _ => .int .u8 0
def litCells : DataW Unit → Array Value
  | .agg ps => (ps.map litVal).toArray
  | _ => #[]
def putCells (cs : Array Value) : Obj → Obj
  | .cells _ t frozen => .cells cs t frozen
  | o => o
def deedsObj : Obj := .map #[⟨.string ⟨#[99, 104, 97, 114, 103, 101]⟩, .int .i64 1, 0⟩, ⟨.string ⟨#[114, 101, 102, 117, 110, 100]⟩, .int .i64 4, 1⟩, ⟨.string ⟨#[114, 101, 108, 101, 97, 115, 101]⟩, .int .i64 3, 2⟩, ⟨.string ⟨#[114, 101, 115, 101, 114, 118, 101]⟩, .int .i64 0, 3⟩, ⟨.string ⟨#[115, 104, 105, 112]⟩, .int .i64 2, 4⟩, ⟨.string ⟨#[118, 111, 105, 100]⟩, .int .i64 5, 5⟩] 6
def laidHeap (h : Array Obj) : Array Obj :=
  let h1 := h.modify 3 (putCells (litCells Rows.laid_math_bits_deBruijn32tab))
  let h2 := h1.modify 4 (putCells (litCells Rows.laid_math_bits_deBruijn64tab))
  let h3 := h2.modify 1 (putCells (litCells Rows.laid_internal_strconv_uint64pow10))
  let h4 := h3.modify 2 (putCells (litCells Rows.laid_consignor_keys_parties))
  let h5 := h4.modify 0 (putCells #[.map (some h.size)])
  h5.push deedsObj
noncomputable def laidWorld (os : Os) : World :=
  { World.holding Tryz.prog os ⟨#[], #[], []⟩ with heap := laidHeap (World.holding Tryz.prog os ⟨#[], #[], []⟩).heap }
end Go.Proofs.YtibabfedpdoofaaGreatDoor
namespace Go.Own
open Go.RowKit Go.ChangeShapes Go.WideShapes Go.Deep

theorem five_of {l : List Value} (h : l.length = 5) : ∃ a b c d e, l = [a, b, c, d, e] := by
  match l, h with
  | [a, b, c, d, e], _ => exact ⟨a, b, c, d, e, rfl⟩
theorem addr_add1 (c : Addr) (k : Nat) : c.add (k + 1) = ⟨c.block, c.off + (k + 1), none⟩ := by simp [Addr.add]
/-- Structs of k cells that came in; f: a struct's cells; p: what is known of each. -/
theorem slice_of {H R : Type} [Inhabited R] {enc : TypeId × Value → H} {P : Program} {W : World} {base : Nat} {spare : Nat → Bool} {held : Bool} {fuel : Nat} {t e : TypeId} {cs : List Value} {x : DataW H × List MemPlace} {k : Nat} (f : R → List Value) (p : R → Prop)
    (ht : P.underlying t = some (.slice e)) (hk : P.cellsOf e = k) (hpos : 0 < k) (hf : ∀ r, (f r).length = k)
    (hel : ∀ (fuel' : Nat) (cs' : List Value) (x' : DataW H × List MemPlace), DataW.trod enc P W base spare held fuel' e cs' = some x' → cs'.length = k → ∃ r, cs' = f r ∧ p r)
    (h : DataW.trod enc P W base spare held fuel t cs = some x) : ∃ (v : Value) (L : List R), cs = [v] ∧ IsL W k v (L.map f) ∧ ∀ r ∈ L, p r := by
  rcases open_slice ht h with ⟨rfl, rfl⟩ | ⟨a, len, cap, m, n, D, Pl, rfl, hb, hl, hm, hmm, hx, hi⟩
  · exact ⟨_, [], rfl, .none _ _ (fun _ => rfl), by simp⟩
  · rw [hk] at hi
    have hlm : len ≤ m := by rw [hmm]; split <;> omega
    have hr : ∀ i, i < len → ∃ r : R, (∀ j (u : Value), (f r)[j]? = some u → W.cell? ((a.add (i * k)).add j) = some u) ∧ p r := fun i him => by
      obtain ⟨cs', hc, ht⟩ := hi i (by omega)
      obtain ⟨_, hlen, hg⟩ := World.cells?_some hc
      obtain ⟨r, rfl, hp⟩ := hel _ _ _ ht hlen
      refine ⟨r, fun j u hu => ?_, hp⟩
      have hj : j < k := by
        have := (List.getElem?_eq_some_iff.1 hu).1
        rwa [hf] at this
      rw [hg j hj]
      simpa using hu
    obtain ⟨G, hG⟩ := choose_lt (α := R) (p := fun i r => (∀ j (u : Value), (f r)[j]? = some u → W.cell? ((a.add (i * k)).add j) = some u) ∧ p r) hr
    refine ⟨_, (List.range len).map G, rfl, ?_, fun r hr => ?_⟩
    · by_cases h0 : len = 0
      · subst h0; exact .none _ _ (fun e => by cases e)
      have hL : (((List.range len).map G).map f).length = len := by simp
      have key : IsL W k (.slice (some a) (((List.range len).map G).map f).length cap) (((List.range len).map G).map f) := by
        refine .some a cap _ (by omega) hm (by omega) ⟨?_, fun i h j u hu => ?_⟩
        · have h1 : 0 < (f (G 0)).length := by rw [hf]; exact hpos
          have := World.block_lt_of_cell? W _ ((hG 0 (by omega)).1 0 _ (List.getElem?_eq_getElem h1))
          rwa [lBlock, lBlock] at this
        · rw [hL] at h
          simp only [List.getElem_map, List.getElem_range] at hu
          exact (hG i h).1 j u hu
      rwa [hL] at key
    · obtain ⟨i, hi', rfl⟩ := List.mem_map.1 hr
      exact (hG i (List.mem_range.1 hi')).2
theorem twelve {l : List Value} (h : l.length = 12) : ∃ a b c d e f g h i j k m, l = [a, b, c, d, e, f, g, h, i, j, k, m] := by
  match l, h with
  | [a, b, c, d, e, f, g, h, i, j, k, m], _ => exact ⟨a, b, c, d, e, f, g, h, i, j, k, m, rfl⟩
end Go.Own
namespace Go.Proofs.YtibabfedpdoofaaGreatDoor
open Go.RowKit Go.Own Go.ChangeShapes Go.WideShapes Go.Deep

theorem cellsI64 : Tryz.prog.cellsOf 2 = 1 := by kernel_rfl
theorem cellsKey : Tryz.prog.cellsOf 29 = 2 := by kernel_rfl
theorem cellsStr : Tryz.prog.cellsOf 9 = 1 := by kernel_rfl
theorem cellsOrder : Tryz.prog.cellsOf 27 = 5 := by kernel_rfl
theorem cellsStmt : Tryz.prog.cellsOf 32 = 3 := by kernel_rfl
theorem cellsEnt : Tryz.prog.cellsOf 34 = 12 := by kernel_rfl
theorem cellsRow : Tryz.prog.cellsOf 160 = 5 := by kernel_rfl
theorem cellsRows : Tryz.prog.cellsOf 30 = 1 := by kernel_rfl
set_option maxRecDepth 100000 in
theorem row_of {H : Type} {enc : TypeId × Value → H} {W : World} {base : Nat} {spare : Nat → Bool} {held : Bool} {fuel : Nat} {cs : List Value} {x : DataW H × List MemPlace}
    (h : DataW.trod enc Tryz.prog W base spare held fuel 160 cs = some x) (hl : cs.length = 5) : ∃ r : RowS, cs = r.cells.toList := by
  obtain ⟨a, b, c, d, e, rfl⟩ := five_of hl
  obtain ⟨_, _, hk⟩ := fld Tryz.underlying160 h 0 _ rfl
  obtain ⟨_, _, h1⟩ := fld Tryz.underlying160 h 1 _ rfl
  obtain ⟨_, _, h2⟩ := fld Tryz.underlying160 h 2 _ rfl
  obtain ⟨_, _, h3⟩ := fld Tryz.underlying160 h 3 _ rfl
  obtain ⟨_, _, k0⟩ := fld Tryz.underlying29 hk 0 _ rfl
  obtain ⟨_, _, k1⟩ := fld Tryz.underlying29 hk 1 _ rfl
  obtain ⟨n1, e1, _, _⟩ := DataW.trod_int Tryz.underlying3 k0
  obtain ⟨n2, e2, _, _⟩ := DataW.trod_int Tryz.underlying3 k1
  obtain ⟨n3, e3, _, _⟩ := DataW.trod_int Tryz.underlying3 h1
  obtain ⟨n4, e4, _, _⟩ := DataW.trod_int Tryz.underlying2 h2
  obtain ⟨n5, e5, _, _⟩ := DataW.trod_int Tryz.underlying3 h3
  simp [cellsInt, cellsI64, cellsKey] at e1 e2 e3 e4 e5
  subst e1 e2 e3 e4 e5
  exact ⟨⟨n1, n2, n3, n4, n5⟩, rfl⟩
instance : Inhabited RowS := ⟨⟨0, 0, 0, 0, 0⟩⟩
set_option maxRecDepth 100000 in
/-- Rows that came in. -/
theorem rows_of {H : Type} {enc : TypeId × Value → H} {W : World} {base : Nat} {spare : Nat → Bool} {held : Bool} {fuel : Nat} {cs : List Value} {x : DataW H × List MemPlace}
    (h : DataW.trod enc Tryz.prog W base spare held fuel 30 cs = some x) : ∃ v rs, cs = [v] ∧ IsRows W v rs := by
  rcases open_slice Tryz.underlying30 h with ⟨rfl, rfl⟩ | ⟨a, len, cap, m, n, D, Pl, rfl, hb, hl, hm, hmm, hx, hi⟩
  · exact ⟨_, [], rfl, .none _ _ (fun _ => rfl)⟩
  · rw [cellsRow] at hi
    have hlm : len ≤ m := by rw [hmm]; split <;> omega
    have hr : ∀ i, i < len → ∃ r : RowS, ∀ k (u : Value), r.cells[k]? = some u → W.cell? ((a.add (i * 5)).add k) = some u := fun i him => by
      obtain ⟨cs', hc, ht⟩ := hi i (by omega)
      obtain ⟨_, hlen, hg⟩ := World.cells?_some hc
      obtain ⟨r, rfl⟩ := row_of ht hlen
      refine ⟨r, fun k u hu => ?_⟩
      have hk : k < 5 := by
        have := (Array.getElem?_eq_some_iff.1 hu).1
        simpa [RowS.cells] using this
      rw [hg k hk]
      simpa using hu
    obtain ⟨R, hR⟩ := choose_lt (α := RowS) (p := fun i r => ∀ k (u : Value), r.cells[k]? = some u → W.cell? ((a.add (i * 5)).add k) = some u) hr
    refine ⟨_, (List.range len).map R, rfl, ?_⟩
    by_cases h0 : len = 0
    · subst h0; exact .none _ _ (fun e => by cases e)
    have hL : ((List.range len).map R).length = len := by simp
    have key : IsRows W (.slice (some a) ((List.range len).map R).length cap) ((List.range len).map R) := by
      refine .some a cap _ (by omega) hm (by omega) ⟨?_, fun i h => ?_, fun i h => ?_, fun i h => ?_, fun i h => ?_, fun i h => ?_⟩
      · have := World.block_lt_of_cell? W _ (hR 0 (by omega) 0 _ rfl)
        rwa [add_block, add_block] at this
      all_goals
        rw [hL] at h
        simp only [List.getElem_map, List.getElem_range]
      · exact hR i h 0 _ rfl
      · rw [← addr_add1]; exact hR i h 1 _ rfl
      · rw [← addr_add1]; exact hR i h 2 _ rfl
      · rw [← addr_add1]; exact hR i h 3 _ rfl
      · rw [← addr_add1]; exact hR i h 4 _ rfl
    rwa [hL] at key
theorem wf_inI {n : Int} (h : (Lit.int .i64 n).wf = true) : inI n = true := by
  simp [Lit.wf, IntKind.min, IntKind.max, IntKind.bits, IntKind.signed] at h
  exact inI_iff.2 (by omega)
instance : Inhabited EntI := ⟨⟨⟨0, 0, [], [], 0, 0, 0, 0, 0, 0, 0, []⟩, .slice none 0 0⟩⟩
set_option maxRecDepth 100000 in
set_option maxHeartbeats 4000000 in
theorem entCells_of {H : Type} {enc : TypeId × Value → H} {W : World} {base : Nat} {spare : Nat → Bool} {held : Bool} {fuel : Nat} {cs : List Value} {x : DataW H × List MemPlace}
    (hf : DataW.trod enc Tryz.prog W base spare held fuel 34 cs = some x) (hl : cs.length = 12) : ∃ e : EntI, cs = entC e ∧ IsRows W e.v e.x.rs ∧ e.x.ref.length ≤ maxLen ∧ e.x.sku.length ≤ maxLen ∧ inI e.x.o = true := by
  obtain ⟨a, b, c, d, e, f, g, h', i, j, k, m, rfl⟩ := twelve hl
  obtain ⟨_, _, h0⟩ := fld Tryz.underlying34 hf 0 _ rfl
  obtain ⟨_, _, ho⟩ := fld Tryz.underlying34 hf 1 _ rfl
  obtain ⟨_, _, hk⟩ := fld Tryz.underlying34 hf 2 _ rfl
  obtain ⟨_, _, h8⟩ := fld Tryz.underlying34 hf 3 _ rfl
  obtain ⟨_, _, hs⟩ := fld Tryz.underlying34 hf 4 _ rfl
  obtain ⟨_, _, h1⟩ := fld Tryz.underlying27 ho 0 _ rfl
  obtain ⟨_, _, h2⟩ := fld Tryz.underlying27 ho 1 _ rfl
  obtain ⟨_, _, h3⟩ := fld Tryz.underlying27 ho 2 _ rfl
  obtain ⟨_, _, h4⟩ := fld Tryz.underlying27 ho 3 _ rfl
  obtain ⟨_, _, h5⟩ := fld Tryz.underlying27 ho 4 _ rfl
  obtain ⟨_, _, h6⟩ := fld Tryz.underlying29 hk 0 _ rfl
  obtain ⟨_, _, h7⟩ := fld Tryz.underlying29 hk 1 _ rfl
  obtain ⟨_, _, h9⟩ := fld Tryz.underlying32 hs 0 _ rfl
  obtain ⟨_, _, h10⟩ := fld Tryz.underlying32 hs 1 _ rfl
  obtain ⟨_, _, h11⟩ := fld Tryz.underlying32 hs 2 _ rfl
  obtain ⟨n0, e0, _, _⟩ := DataW.trod_int Tryz.underlying3 h0
  obtain ⟨n1, e1, _, _⟩ := DataW.trod_int Tryz.underlying3 h1
  obtain ⟨s2, e2, _, l2⟩ := DataW.trod_string Tryz.underlying9 h2
  obtain ⟨s3, e3, _, l3⟩ := DataW.trod_string Tryz.underlying9 h3
  obtain ⟨n4, e4, _, _⟩ := DataW.trod_int Tryz.underlying3 h4
  obtain ⟨n5, e5, _, _⟩ := DataW.trod_int Tryz.underlying2 h5
  obtain ⟨n6, e6, _, w6⟩ := DataW.trod_int Tryz.underlying3 h6
  obtain ⟨n7, e7, _, _⟩ := DataW.trod_int Tryz.underlying3 h7
  obtain ⟨n8, e8, _, _⟩ := DataW.trod_int Tryz.underlying3 h8
  obtain ⟨n9, e9, _, _⟩ := DataW.trod_int Tryz.underlying3 h9
  obtain ⟨n10, e10, _, _⟩ := DataW.trod_int Tryz.underlying3 h10
  obtain ⟨u, rs, e11, hu⟩ := rows_of h11
  simp [cellsInt, cellsI64, cellsStr, cellsKey, cellsOrder, cellsStmt, cellsRows] at e0 e1 e2 e3 e4 e5 e6 e7 e8 e9 e10 e11
  subst e0 e1 e2 e3 e4 e5 e6 e7 e8 e9 e10 e11
  exact ⟨⟨⟨n0, n1, s2.data.toList, s3.data.toList, n4, n5, n6, n7, n8, n9, n10, rs⟩, _⟩, by simp [entC], hu, by simpa using l2, by simpa using l3, wf_inI w6⟩
set_option maxRecDepth 100000 in
theorem ents_of {H : Type} {enc : TypeId × Value → H} {W : World} {base : Nat} {spare : Nat → Bool} {held : Bool} {v : Value} {d : DataW H} {p : List MemPlace}
    (h : DataW.Trod enc Tryz.prog W base spare held 22 v d p) (hv : v.cells.toList = [v]) : ∃ es : List EntI, IsEnts W v es := by
  obtain ⟨fuel, hf⟩ := h
  obtain ⟨u, es, e, hI, hw⟩ := slice_of entC (fun e => IsRows W e.v e.x.rs ∧ e.x.ref.length ≤ maxLen ∧ e.x.sku.length ≤ maxLen ∧ inI e.x.o = true) Tryz.underlying22 cellsEnt (by decide) (fun _ => rfl) (fun _ _ _ h hl => entCells_of h hl) hf
  rw [hv] at e
  obtain rfl : v = u := by simpa using e
  exact ⟨es, ⟨hI, hw⟩⟩
end Go.Proofs.YtibabfedpdoofaaGreatDoor

/-
  The document's core: a reply, a statement, any entry, by walking its text; conditions: the core is one that entries come to, the rows lie in memory, int64 numbers.
  Which entries are too great, by walking the law's text; conditions: texts no longer than memory bears.
  Entries that came in, and which of them are too great, by walking the law's text; conditions: the entries lie in memory.
  The core that entries come to, and the document's: alike, by walking the law's text; conditions: the entries lie in memory, the laid tables.
  Whether two sagas are the same, of the program's type and of the document's, as the machine tells it; conditions: none.
  Lines of a history: the document's of one, and whether one is taken, by walking the texts; conditions: none.
  Another core like one, by walking the program's text; conditions: the core is one that entries come to.
  What a core asks for, deeds that wait, a model of a core and the entry that places an order, by walking the program's texts; conditions: the core is one that entries come to.
  Whether two entries are the same, by walking both texts; conditions: the rows lie in memory.
-/
import Derived.Test.YtibabfedpdoofaaGreatDoorPa1
import Derived.Test.YtibabfedpdoofaaGreatDoorPa2
import Derived.Test.YtibabfedpdoofaaGreatDoorPa4
import Derived.Test.YtibabfedpdoofaaGreatDoorPa7
import Derived.Test.YtibabfedpdoofaaGreatDoorPa8
import Derived.Test.YtibabfedpdoofaaGreatDoorPa9
namespace Go.Proofs.YtibabfedpdoofaaGreatDoor
open Go.RowKit Go.Own Go.Maps

set_option maxHeartbeats 16000000 in
set_option maxRecDepth 100000 in
theorem rcApp3_any {W w : World} {M G : List Ent} {x : RcA} {S : CoS} {A : InS} {v9 : Value} (y : EntS) (HO : Own W w (rcB x A :: M)) (hG : RcIn W G x S A) (hm : ∀ e ∈ G, e ∈ M) (hy : EntF W G y v9) (hok : CoOk S) (hids : idsOk S.L) (hlen : S.P.length ≤ 99000) (hk : y.k = 3) :
    Calls Tryz.prog 28 #[.pointer (some ⟨x.r, 0, none⟩), .agg #[.int .i64 (y).k, .int .i64 (y).id, .string ⟨(y).ref.toArray⟩, .string ⟨(y).sku.toArray⟩, .int .i64 (y).qty, .int .i64 (y).amt, .int .i64 (y).o, .int .i64 (y).d, .int .i64 (y).c, .int .i64 (y).p, .int .i64 (y).q, v9]] w fun e w' => e = .returned (.int .i64 (replyE S.L y.o y.d y.c)) ∧ ∃ (x' : RcA) (N : List Ent), x'.r = x.r ∧ Own W w' (rcB x' A :: (N ++ M)) ∧ RcIn W (N ++ G) x' (rawReplyS S y.o y.d y.c) A := by
  have hu := (hy.rows w HO.grown (fun e he => HO.has _ (.tail _ (hm e he)))).slice
  obtain ⟨vp, vc, rfl, -⟩ := hu
  have hid := hy.o
  obtain ⟨yk, yid, yref, ysku, yq, ya, id, yd, yc, yp, yqq, yrs⟩ := y
  simp only at hid hk
  subst hk
  change Calls Tryz.prog 28 _ w fun e w' => e = .returned (.int .i64 (replyE S.L id yd yc)) ∧ ∃ (x' : RcA) (N : List Ent), x'.r = x.r ∧ Own W w' (rcB x' A :: (N ++ M)) ∧ RcIn W (N ++ G) x' (rawReplyS S id yd yc) A
  have RP := Lib.hid (fun (w : World) (a : Ent) (h : Own W w (a :: rcB x A :: M)) => rcReply_any (M := a :: M) (G := G) id yd yc (h.perm (List.Perm.swap _ _ _)) hG (fun e he => .tail _ (hm e he)) hid hok hids hlen)
  clear hG hy hok hids hlen hid hm
  go_enter Tryz.func28, Tryz.ntmps28
  go_wp2_with (first | (((with_reducible apply wpList_loadOne HO); exact rfl; exact rfl; (repeat (with_reducible (exact At.head _))); exact rfl; infer_instance; exact rfl; (simp only [Act.put, zA, zB, zC]))) | ((with_reducible apply wpList_loadPart HO); exact rfl; exact rfl; (repeat (with_reducible (exact At.head _))); infer_instance; exact (Nat.le_of_ble_eq_true rfl); (simp only [List.drop_succ_cons, List.drop_zero, List.take_succ_cons, List.take_zero]; rfl); exact rfl; (simp only [Act.put, zA, zB, zC])) | (((with_reducible apply wpList_boxAgg _ HO rfl); exact rfl; exact rfl; exact rfl; clear HO; intro b1 w HO; (simp only [Act.put, zA, zB, zC]))) | (go_at_call 88; go_must ((have h9 := RP.out _ _ HO); (with_reducible refine h9.mono ?_); clear h9 HO; rintro e w ⟨rfl, x', N, hr, HO, hG⟩)))
  go_ret
  refine ⟨rfl, x', N ++ [_], hr, by rw [List.append_assoc]; exact HO, hG.mono (fun e he => ?_)⟩
  rcases List.mem_append.1 he with he | he
  · exact List.mem_append_left _ (List.mem_append_left _ he)
  · exact List.mem_append_right _ he

set_option maxHeartbeats 16000000 in
set_option maxRecDepth 100000 in
theorem rcApp5_any {W w : World} {M G : List Ent} {x : RcA} {S : CoS} {A : InS} {v9 : Value} (y : EntS) (HO : Own W w (rcB x A :: M)) (hG : RcIn W G x S A) (hm : ∀ e ∈ G, e ∈ M) (hy : EntF W G y v9) (h1 : y.k ≠ 1) (h2 : y.k ≠ 2) (h3 : y.k ≠ 3) (h4 : y.k ≠ 4) :
    Calls Tryz.prog 28 #[.pointer (some ⟨x.r, 0, none⟩), .agg #[.int .i64 (y).k, .int .i64 (y).id, .string ⟨(y).ref.toArray⟩, .string ⟨(y).sku.toArray⟩, .int .i64 (y).qty, .int .i64 (y).amt, .int .i64 (y).o, .int .i64 (y).d, .int .i64 (y).c, .int .i64 (y).p, .int .i64 (y).q, v9]] w fun e w' => e = .returned (.int .i64 2) ∧ ∃ (x' : RcA) (N : List Ent), x'.r = x.r ∧ Own W w' (rcB x' A :: (N ++ M)) ∧ RcIn W (N ++ G) x' S A := by
  have hu := (hy.rows w HO.grown (fun e he => HO.has _ (.tail _ (hm e he)))).slice
  obtain ⟨vp, vc, rfl, -⟩ := hu
  have HG := Lib.hid hG
  clear hG hy hm
  go_enter Tryz.func28, Tryz.ntmps28
  go_wp2_with (first | (((with_reducible apply wpList_loadOne HO); exact rfl; exact rfl; (repeat (with_reducible (exact At.head _))); exact rfl; infer_instance; exact rfl; (simp only [Act.put, zA, zB, zC]))) | (((with_reducible apply wpList_boxAgg _ HO rfl); exact rfl; exact rfl; exact rfl; clear HO; intro b1 w HO; (simp only [Act.put, zA, zB, zC]))))
  go_ret
  first | exact ⟨rfl, x, rfl, [], HO.tail, HG.out⟩ | exact ⟨rfl, x, [], rfl, HO.tail, HG.out⟩

theorem rc_put {w : World} {v0 v1 v2 v : Value} {A : InS} {p q : Int} {rs : List RowS} (h0 : IsRows w v0 A.r0) (h1 : IsRows w v1 A.r1) (h2 : IsRows w v2 A.r2) (h : IsRows w v rs) (hp : p = 0 ∨ p = 1 ∨ p = 2) :
    IsRows w (if p = 0 then v else v0) (A.put p q rs).r0 ∧ IsRows w (if p = 1 then v else v1) (A.put p q rs).r1 ∧ IsRows w (if p = 2 then v else v2) (A.put p q rs).r2 := by
  rcases hp with rfl | rfl | rfl
  · exact ⟨h, h1, h2⟩
  · exact ⟨h0, h, h2⟩
  · exact ⟨h0, h1, h⟩

set_option maxHeartbeats 16000000 in
set_option maxRecDepth 100000 in
theorem rcApp4no_any {W w : World} {M G : List Ent} {x : RcA} {S : CoS} {A : InS} {v9 : Value} (y : EntS) (HO : Own W w (rcB x A :: M)) (hG : RcIn W G x S A) (hm : ∀ e ∈ G, e ∈ M) (hy : EntF W G y v9) (hk : y.k = 4) (ha : accE A y.p y.q y.rs ≠ 0) :
    Calls Tryz.prog 28 #[.pointer (some ⟨x.r, 0, none⟩), .agg #[.int .i64 (y).k, .int .i64 (y).id, .string ⟨(y).ref.toArray⟩, .string ⟨(y).sku.toArray⟩, .int .i64 (y).qty, .int .i64 (y).amt, .int .i64 (y).o, .int .i64 (y).d, .int .i64 (y).c, .int .i64 (y).p, .int .i64 (y).q, v9]] w fun e w' => e = .returned (.int .i64 (accE A y.p y.q y.rs)) ∧ ∃ (x' : RcA) (N : List Ent), x'.r = x.r ∧ Own W w' (rcB x' A :: (N ++ M)) ∧ RcIn W (N ++ G) x' S A := by
  have hu := (hy.rows w HO.grown (fun e he => HO.has _ (.tail _ (hm e he)))).slice
  obtain ⟨vp, vc, rfl, -⟩ := hu
  obtain ⟨r, v, u, v0, v1, v2⟩ := x
  obtain ⟨yk, yid, yref, ysku, yq, ya, yo, yd, yc, p, q, rs⟩ := y
  have hrs := hy.rows
  simp only at hk ha hrs
  subst hk
  change Calls Tryz.prog 28 _ w fun e w' => e = .returned (.int .i64 (accE A p q rs)) ∧ ∃ (x' : RcA) (N : List Ent), x'.r = r ∧ Own W w' (rcB x' A :: (N ++ M)) ∧ RcIn W (N ++ G) x' S A
  have AC := Lib.hid (fun (w : World) (L : List Ent) (h : Own W w L) (hM : ∀ e ∈ M, e ∈ L) => show Calls Tryz.prog 89 #[.agg #[.int .i64 (A).p0, .int .i64 (A).q0, v0, .int .i64 (A).p1, .int .i64 (A).q1, v1, .int .i64 (A).p2, .int .i64 (A).q2, v2], .agg #[.int .i64 p, .int .i64 q, .slice vp rs.length vc]] w fun e w' => e = .returned (.tuple #[.agg #[.int .i64 0, .int .i64 0, .slice none 0 0, .int .i64 0, .int .i64 0, .slice none 0 0, .int .i64 0, .int .i64 0, .slice none 0 0], .int .i64 (accE A p q rs)]) ∧ Below w.heap.size w w' from by
    have h1 := hG.at h (fun e he => hM e (hm e he))
    refine (refAccept_any A p q rs h1.i0 h1.i1 h1.i2 (hrs w h.grown (fun e he => h.has _ (hM e (hm e he))))).mono ?_
    intro e w' he
    unfold RefAccPost at he
    rw [if_neg ha] at he
    exact ⟨he.2, he.1⟩)
  have HG := Lib.hid hG
  unfold rcB rcC at HO
  simp only at HO
  have hex : (accE A p q rs != 0) = true := by simpa using ha
  generalize accE A p q rs = ex at *
  clear hG hy hm hrs ha
  go_enter Tryz.func28, Tryz.ntmps28
  go_upto_region 24 with (first | (((with_reducible apply wpList_loadOne HO); exact rfl; exact rfl; (repeat (with_reducible (exact At.head _))); exact rfl; infer_instance; exact rfl; (simp only [Act.put, zA, zB, zC]))) | (((with_reducible apply wpList_boxAgg _ HO rfl); exact rfl; exact rfl; exact rfl; clear HO; intro b1 w HO; (simp only [Act.put, zA, zB, zC]))))
  go_cut [8, 9] (fun x e wx => ∃ b8, x = .pointer (some ⟨b8, 0, none⟩) ∧ e = .int .i64 ex ∧ Own W wx (box b8 (.cells #[.int .i64 0, .int .i64 0, .slice none 0 0, .int .i64 0, .int .i64 0, .slice none 0 0, .int .i64 0, .int .i64 0, .slice none 0 0] 150) :: box b1 (.cells #[.int .i64 4, .int .i64 yid, .string ⟨yref.toArray⟩, .string ⟨ysku.toArray⟩, .int .i64 yq, .int .i64 ya, .int .i64 yo, .int .i64 yd, .int .i64 yc, .int .i64 p, .int .i64 q, .slice vp rs.length vc] 34) :: box r (.cells #[v, u, .int .i64 A.p0, .int .i64 A.q0, v0, .int .i64 A.p1, .int .i64 A.q1, v1, .int .i64 A.p2, .int .i64 A.q2, v2] 152) :: M))
  case first =>
        refine region_treeO (box b1 (.cells #[.int .i64 4, .int .i64 yid, .string ⟨yref.toArray⟩, .string ⟨ysku.toArray⟩, .int .i64 yq, .int .i64 ya, .int .i64 yo, .int .i64 yd, .int .i64 yc, .int .i64 p, .int .i64 q, .slice vp rs.length vc] 34) :: box r (.cells #[v, u, .int .i64 A.p0, .int .i64 A.q0, v0, .int .i64 A.p1, .int .i64 A.q1, v1, .int .i64 A.p2, .int .i64 A.q2, v2] 152) :: M) [(0, true), (1, true), (2, true), (3, true), (4, true), (5, true), (7, true), (8, true), (9, true), (12, true)] (.fork [(0, true), (1, true), (2, true), (3, true), (4, true), (5, true)] 6 10 (.fin [(7, true), (8, true), (9, true), (10, false), (11, false), (12, true)]) (.fin [(6, false), (7, true), (8, true), (9, true), (11, false), (12, true)])) HO (by with_reducible (repeat (exact List.Sublist.refl _))) (by kernel_rfl) (by kernel_rfl) ?_
        clear HO
        intro w HO
        refine wpS_fork ?_
        repeat (first | ((with_reducible apply wpSched_loadPart); exact rfl; exact rfl; (exact rfl); (repeat (with_reducible (first | exact At.head _ | apply At.tail))); infer_instance; exact (Nat.le_of_ble_eq_true rfl); (simp only [List.drop_succ_cons, List.drop_zero, List.take_succ_cons, List.take_zero]; rfl); exact rfl; (simp only [Act.put, zA, zB, zC])) | ((with_reducible apply wpSched_pure); exact rfl; exact rfl; (intro w'; go_simp; try with_reducible rfl); (simp only [Act.put, zA, zB, zC])))
        refine fork_end rfl rfl ?_ ?_
        · go_wp2_with ((go_at_call 89; go_must ((with_reducible refine (AC.out _ _ HO (by intro e he; repeat (first | exact he | apply List.mem_cons_of_mem))).mono ?_); rintro e w ⟨rfl, hb⟩; replace HO := HO.call hb; clear hb)))
          refine thenQ_keep (HO.heldO (by with_reducible (repeat (exact List.Sublist.refl _)))) ?_
          refine wpS_fin ?_
          repeat (((with_reducible apply wpSched_pure); exact rfl; exact rfl; (intro w'; go_simp; try with_reducible rfl); (simp only [Act.put, zA, zB, zC])))
          ((with_reducible apply wpSched_loud); exact rfl; (((with_reducible apply wpList_allocAgg _ HO rfl); exact rfl; infer_instance; exact rfl; clear HO; intro b8 w HO; (simp only [Act.put, zA, zB, zC]))))
          refine wpList_nil (thenQ_keep (HO.heldO (by with_reducible (repeat (first | exact List.Sublist.refl _ | apply List.Sublist.cons)))) ?_)
          ((with_reducible apply wpSched_loud); exact rfl; ((with_reducible apply wpList_storeAll HO); exact rfl; exact rfl; exact rfl; (repeat (with_reducible (exact At.head _))); infer_instance; exact rfl; exact rfl; exact rfl; exact rfl; clear HO; intro w HO; (simp only [Act.put])))
          refine wpList_nil (thenQ_keep (HO.heldO (by with_reducible (repeat (first | exact List.Sublist.refl _ | apply List.Sublist.cons)))) ?_)
          repeat ((with_reducible apply wpSched_pure); exact rfl; exact rfl; (intro w'; go_simp; try with_reducible rfl); (simp only [Act.put, zA, zB, zC]))
          refine wpSched_end ?_
          go_wp2_with fail
          go_meet
          exact ⟨b8, rfl, rfl, HO⟩
        · (((with_reducible apply wpList_allocAgg _ HO rfl); exact rfl; infer_instance; exact rfl; clear HO; intro b8 w HO; (simp only [Act.put, zA, zB, zC])))
          refine wpList_nil (thenQ_keep (HO.heldO (by with_reducible (repeat (first | exact List.Sublist.refl _ | apply List.Sublist.cons)))) ?_)
          refine wpS_fin ?_
          ((with_reducible apply wpSched_loud); exact rfl; go_wp2_with ((go_at_call 89; go_must ((with_reducible refine (AC.out _ _ HO (by intro e he; repeat (first | exact he | apply List.mem_cons_of_mem))).mono ?_); rintro e w ⟨rfl, hb⟩; replace HO := HO.call hb; clear hb))))
          refine thenQ_keep (HO.heldO (by with_reducible (repeat (first | exact List.Sublist.refl _ | apply List.Sublist.cons)))) ?_
          repeat (((with_reducible apply wpSched_pure); exact rfl; exact rfl; (intro w'; go_simp; try with_reducible rfl); (simp only [Act.put, zA, zB, zC])))
          ((with_reducible apply wpSched_loud); exact rfl; ((with_reducible apply wpList_storeAll HO); exact rfl; exact rfl; exact rfl; (repeat (with_reducible (exact At.head _))); infer_instance; exact rfl; exact rfl; exact rfl; exact rfl; clear HO; intro w HO; (simp only [Act.put])))
          refine wpList_nil (thenQ_keep (HO.heldO (by with_reducible (repeat (first | exact List.Sublist.refl _ | apply List.Sublist.cons)))) ?_)
          repeat ((with_reducible apply wpSched_pure); exact rfl; exact rfl; (intro w'; go_simp; try with_reducible rfl); (simp only [Act.put, zA, zB, zC]))
          refine wpSched_end ?_
          go_wp2_with fail
          go_meet
          exact ⟨b8, rfl, rfl, HO⟩
  clear HO
  obtain ⟨b8, rfl, rfl, HO⟩ := hcut
  go_wp2_with (fail)
  go_ret
  first | exact ⟨rfl, ⟨r, v, u, v0, v1, v2⟩, rfl, [], HO.tail.tail, HG.out⟩ | exact ⟨rfl, ⟨r, v, u, v0, v1, v2⟩, [], rfl, HO.tail.tail, HG.out⟩

def sdC (q : Nat) (o : Int) : ByteArray := ⟨#[115]⟩ ++ ⟨(Lib.decDigits q).toArray⟩ ++ ⟨#[45]⟩ ++ ⟨(Lib.itoa o).toArray⟩
set_option maxHeartbeats 64000000 in
set_option maxRecDepth 100000 in
theorem rcApp4yes_any {W w : World} {M G : List Ent} {x : RcA} {S : CoS} {A : InS} {v9 : Value} (y : EntS) (HO : Own W w (rcB x A :: M)) (hG : RcIn W G x S A) (hm : ∀ e ∈ G, e ∈ M) (hy : EntF W G y v9) (hk : y.k = 4) (hA : InOk A) (hlen : S.P.length ≤ 99000) (ha : accE A y.p y.q y.rs = 0) :
    Calls Tryz.prog 28 #[.pointer (some ⟨x.r, 0, none⟩), .agg #[.int .i64 (y).k, .int .i64 (y).id, .string ⟨(y).ref.toArray⟩, .string ⟨(y).sku.toArray⟩, .int .i64 (y).qty, .int .i64 (y).amt, .int .i64 (y).o, .int .i64 (y).d, .int .i64 (y).c, .int .i64 (y).p, .int .i64 (y).q, v9]] w fun e w' => e = .returned (.int .i64 0) ∧ ∃ (x' : RcA) (N : List Ent), x'.r = x.r ∧ Own W w' (rcB x' (A.put y.p y.q y.rs) :: (N ++ M)) ∧ RcIn W (N ++ G) x' { S with P := rawStmt S.P (byI A (A.put y.p y.q y.rs)) y.q 60 } (A.put y.p y.q y.rs) := by
  have hu := (hy.rows w HO.grown (fun e he => HO.has _ (.tail _ (hm e he)))).slice
  obtain ⟨vp, vc, rfl, -⟩ := hu
  obtain ⟨r, v, u, v0, v1, v2⟩ := x
  obtain ⟨yk, yid, yref, ysku, yq, ya, yo, yd, yc, p, q, rs⟩ := y
  have hrs := hy.rows
  simp only at hk ha hrs
  subst hk
  have hst := okStmt_ok (accE_ok ha).1
  have hp3 : p = 0 ∨ p = 1 ∨ p = 2 := by omega
  have hB : InOk (A.put p q rs) := put_ok hA (accE_ok ha).1
  obtain ⟨qn, rfl⟩ : ∃ n : Nat, q = (n : Int) := ⟨q.toNat, by omega⟩
  have hqn : qn < 9223372036854775808 := by omega
  change Calls Tryz.prog 28 _ w fun e w' => e = .returned (.int .i64 0) ∧ ∃ (x' : RcA) (N : List Ent), x'.r = r ∧ Own W w' (rcB x' (A.put p qn rs) :: (N ++ M)) ∧ RcIn W (N ++ G) x' { S with P := rawStmt S.P (byI A (A.put p qn rs)) qn 60 } (A.put p qn rs)
  have AC := (fun (w : World) (L : List Ent) (h : Own W w L) (hM : ∀ e ∈ M, e ∈ L) => show Calls Tryz.prog 89 #[.agg #[.int .i64 (A).p0, .int .i64 (A).q0, v0, .int .i64 (A).p1, .int .i64 (A).q1, v1, .int .i64 (A).p2, .int .i64 (A).q2, v2], .agg #[.int .i64 p, .int .i64 (qn : Int), .slice vp rs.length vc]] w fun e w' => e = .returned (.tuple #[.agg #[.int .i64 ((A.put p qn rs)).p0, .int .i64 ((A.put p qn rs)).q0, (if p = 0 then (.slice vp rs.length vc) else v0), .int .i64 ((A.put p qn rs)).p1, .int .i64 ((A.put p qn rs)).q1, (if p = 1 then (.slice vp rs.length vc) else v1), .int .i64 ((A.put p qn rs)).p2, .int .i64 ((A.put p qn rs)).q2, (if p = 2 then (.slice vp rs.length vc) else v2)], .int .i64 0]) ∧ Below w.heap.size w w' from by
    have h1 := hG.at h (fun e he => hM e (hm e he))
    refine (refAccept_any A p qn rs h1.i0 h1.i1 h1.i2 (hrs w h.grown (fun e he => h.has _ (hM e (hm e he))))).mono ?_
    intro e w' he
    unfold RefAccPost at he
    rw [if_pos ha] at he
    exact ⟨he.2, he.1⟩)
  have HB := (fun (w' : World) (hb : Below W.heap.size W w') (hF : ∀ e ∈ G, e.F w') => rc_put (p := p) (q := qn) (hG w' hb hF).i0 (hG w' hb hF).i1 (hG w' hb hF).i2 (hrs w' hb hF) hp3)
  simp only at HB
  have D1 := fun w => digits24_any qn hqn w
  have hlq : (Lib.decDigits qn).length ≤ 25 := by
    have := Lib.itoa_length_le (qn : Int) (by omega) (by omega)
    rw [Lib.itoa_nonneg] at this
    omega
  have HIQ := Lib.hid (show ∀ o, sidK (qn : Int) o = sdC qn o from fun o => by unfold sidK sdC; rw [Lib.itoa_nonneg])
  generalize hw0 : (if p = 0 then (Value.slice vp rs.length vc) else v0) = w0 at *
  generalize hw1 : (if p = 1 then (Value.slice vp rs.length vc) else v1) = w1 at *
  generalize hw2 : (if p = 2 then (Value.slice vp rs.length vc) else v2) = w2 at *
  generalize hBB : A.put p qn rs = B at *
  have hBw := HB w HO.grown (fun e he => HO.has _ (.tail _ (hm e he)))
  obtain ⟨t0, d0, hs0, -⟩ := hBw.1.slice
  obtain ⟨t1, d1, hs1, -⟩ := hBw.2.1.slice
  obtain ⟨t2, d2, hs2, -⟩ := hBw.2.2.slice
  clear hw0 hw1 hw2 hBw
  subst hs0
  subst hs1
  subst hs2
  have NB0 := Lib.hid (fun (o : Int) (w : World) (L : List Ent) (h : Own W w L) (hM : ∀ e ∈ M, e ∈ L) => have h1 := HB w h.grown (fun e he => h.has _ (hM e (hm e he))); refNet_any B o h1.1 h1.2.1 h1.2.2 hB)
  have NA0 := Lib.hid (fun (o : Int) (w : World) (L : List Ent) (h : Own W w L) (hM : ∀ e ∈ M, e ∈ L) => have h1 := hG.at h (fun e he => hM e (hm e he)); refNet_any A o h1.i0 h1.i1 h1.i2 hA)
  have bB := netI_bound hB
  have bA := netI_bound hA
  have HGB := Lib.hid (show RcIn W G ⟨r, v, u, .slice t0 B.r0.length d0, .slice t1 B.r1.length d1, .slice t2 B.r2.length d2⟩ S B from fun w' hb hF => ⟨(hG w' hb hF).l, (hG w' hb hF).b, (HB w' hb hF).1, (HB w' hb hF).2.1, (HB w' hb hF).2.2⟩)
  have HM := Lib.hid hm
  replace AC := Lib.hid AC
  unfold rcB rcC at HO
  simp only at HO
  clear hG hy hm hrs ha hst hp3 HB hB hA hBB
  go_enter Tryz.func28, Tryz.ntmps28
  go_upto_region 24 with (first | (((with_reducible apply wpList_loadOne HO); exact rfl; exact rfl; (repeat (with_reducible (exact At.head _))); exact rfl; infer_instance; exact rfl; (simp only [Act.put, zA, zB, zC]))) | (((with_reducible apply wpList_boxAgg _ HO rfl); exact rfl; exact rfl; exact rfl; clear HO; intro b1 w HO; (simp only [Act.put, zA, zB, zC]))))
  go_cut [8, 9] (fun x e wx => ∃ b8, x = .pointer (some ⟨b8, 0, none⟩) ∧ e = .int .i64 0 ∧ Own W wx (box b8 (.cells #[.int .i64 B.p0, .int .i64 B.q0, .slice t0 B.r0.length d0, .int .i64 B.p1, .int .i64 B.q1, .slice t1 B.r1.length d1, .int .i64 B.p2, .int .i64 B.q2, .slice t2 B.r2.length d2] 150) :: box b1 (.cells #[.int .i64 4, .int .i64 yid, .string ⟨yref.toArray⟩, .string ⟨ysku.toArray⟩, .int .i64 yq, .int .i64 ya, .int .i64 yo, .int .i64 yd, .int .i64 yc, .int .i64 p, .int .i64 (qn : Int), .slice vp rs.length vc] 34) :: box r (.cells #[v, u, .int .i64 A.p0, .int .i64 A.q0, v0, .int .i64 A.p1, .int .i64 A.q1, v1, .int .i64 A.p2, .int .i64 A.q2, v2] 152) :: M))
  case first =>
        refine region_treeO (box b1 (.cells #[.int .i64 4, .int .i64 yid, .string ⟨yref.toArray⟩, .string ⟨ysku.toArray⟩, .int .i64 yq, .int .i64 ya, .int .i64 yo, .int .i64 yd, .int .i64 yc, .int .i64 p, .int .i64 (qn : Int), .slice vp rs.length vc] 34) :: box r (.cells #[v, u, .int .i64 A.p0, .int .i64 A.q0, v0, .int .i64 A.p1, .int .i64 A.q1, v1, .int .i64 A.p2, .int .i64 A.q2, v2] 152) :: M) [(0, true), (1, true), (2, true), (3, true), (4, true), (5, true), (7, true), (8, true), (9, true), (12, true)] (.fork [(0, true), (1, true), (2, true), (3, true), (4, true), (5, true)] 6 10 (.fin [(7, true), (8, true), (9, true), (10, false), (11, false), (12, true)]) (.fin [(6, false), (7, true), (8, true), (9, true), (11, false), (12, true)])) HO (by with_reducible (repeat (exact List.Sublist.refl _))) (by kernel_rfl) (by kernel_rfl) ?_
        clear HO
        intro w HO
        refine wpS_fork ?_
        repeat (first | ((with_reducible apply wpSched_loadPart); exact rfl; exact rfl; (exact rfl); (repeat (with_reducible (first | exact At.head _ | apply At.tail))); infer_instance; exact (Nat.le_of_ble_eq_true rfl); (simp only [List.drop_succ_cons, List.drop_zero, List.take_succ_cons, List.take_zero]; rfl); exact rfl; (simp only [Act.put, zA, zB, zC])) | ((with_reducible apply wpSched_pure); exact rfl; exact rfl; (intro w'; go_simp; try with_reducible rfl); (simp only [Act.put, zA, zB, zC])))
        refine fork_end rfl rfl ?_ ?_
        · go_wp2_with ((go_at_call 89; go_must ((with_reducible refine (AC.out _ _ HO (by intro e he; repeat (first | exact he | apply List.mem_cons_of_mem))).mono ?_); rintro e w ⟨rfl, hb⟩; replace HO := HO.call hb; clear hb)))
          refine thenQ_keep (HO.heldO (by with_reducible (repeat (exact List.Sublist.refl _)))) ?_
          refine wpS_fin ?_
          repeat (((with_reducible apply wpSched_pure); exact rfl; exact rfl; (intro w'; go_simp; try with_reducible rfl); (simp only [Act.put, zA, zB, zC])))
          ((with_reducible apply wpSched_loud); exact rfl; (((with_reducible apply wpList_allocAgg _ HO rfl); exact rfl; infer_instance; exact rfl; clear HO; intro b8 w HO; (simp only [Act.put, zA, zB, zC]))))
          refine wpList_nil (thenQ_keep (HO.heldO (by with_reducible (repeat (first | exact List.Sublist.refl _ | apply List.Sublist.cons)))) ?_)
          ((with_reducible apply wpSched_loud); exact rfl; ((with_reducible apply wpList_storeAll HO); exact rfl; exact rfl; exact rfl; (repeat (with_reducible (exact At.head _))); infer_instance; exact rfl; exact rfl; exact rfl; exact rfl; clear HO; intro w HO; (simp only [Act.put])))
          refine wpList_nil (thenQ_keep (HO.heldO (by with_reducible (repeat (first | exact List.Sublist.refl _ | apply List.Sublist.cons)))) ?_)
          repeat ((with_reducible apply wpSched_pure); exact rfl; exact rfl; (intro w'; go_simp; try with_reducible rfl); (simp only [Act.put, zA, zB, zC]))
          refine wpSched_end ?_
          go_wp2_with fail
          go_meet
          exact ⟨b8, rfl, rfl, HO⟩
        · (((with_reducible apply wpList_allocAgg _ HO rfl); exact rfl; infer_instance; exact rfl; clear HO; intro b8 w HO; (simp only [Act.put, zA, zB, zC])))
          refine wpList_nil (thenQ_keep (HO.heldO (by with_reducible (repeat (first | exact List.Sublist.refl _ | apply List.Sublist.cons)))) ?_)
          refine wpS_fin ?_
          ((with_reducible apply wpSched_loud); exact rfl; go_wp2_with ((go_at_call 89; go_must ((with_reducible refine (AC.out _ _ HO (by intro e he; repeat (first | exact he | apply List.mem_cons_of_mem))).mono ?_); rintro e w ⟨rfl, hb⟩; replace HO := HO.call hb; clear hb))))
          refine thenQ_keep (HO.heldO (by with_reducible (repeat (first | exact List.Sublist.refl _ | apply List.Sublist.cons)))) ?_
          repeat (((with_reducible apply wpSched_pure); exact rfl; exact rfl; (intro w'; go_simp; try with_reducible rfl); (simp only [Act.put, zA, zB, zC])))
          ((with_reducible apply wpSched_loud); exact rfl; ((with_reducible apply wpList_storeAll HO); exact rfl; exact rfl; exact rfl; (repeat (with_reducible (exact At.head _))); infer_instance; exact rfl; exact rfl; exact rfl; exact rfl; clear HO; intro w HO; (simp only [Act.put])))
          refine wpList_nil (thenQ_keep (HO.heldO (by with_reducible (repeat (first | exact List.Sublist.refl _ | apply List.Sublist.cons)))) ?_)
          repeat ((with_reducible apply wpSched_pure); exact rfl; exact rfl; (intro w'; go_simp; try with_reducible rfl); (simp only [Act.put, zA, zB, zC]))
          refine wpSched_end ?_
          go_wp2_with fail
          go_meet
          exact ⟨b8, rfl, rfl, HO⟩
  clear HO AC
  obtain ⟨b8, rfl, rfl, HO⟩ := hcut
  go_wp2_with (fail)
  go_loopw [10] (fun o wr => ∃ (k : Nat) (u' : Value) (N : List Ent), k ≤ 60 ∧ o = .int .i64 ((k : Int) + 1) ∧ RcIn W (N ++ G) ⟨r, v, u', .slice t0 B.r0.length d0, .slice t1 B.r1.length d1, .slice t2 B.r2.length d2⟩ ⟨S.L, rawStmt S.P (byI A B) qn k⟩ B ∧ (rawStmt S.P (byI A B) qn k).length ≤ S.P.length + k ∧ Own W wr (box b8 (.cells #[.int .i64 B.p0, .int .i64 B.q0, .slice t0 B.r0.length d0, .int .i64 B.p1, .int .i64 B.q1, .slice t1 B.r1.length d1, .int .i64 B.p2, .int .i64 B.q2, .slice t2 B.r2.length d2] 150) :: box b1 (.cells #[.int .i64 4, .int .i64 yid, .string ⟨yref.toArray⟩, .string ⟨ysku.toArray⟩, .int .i64 yq, .int .i64 ya, .int .i64 yo, .int .i64 yd, .int .i64 yc, .int .i64 p, .int .i64 (qn : Int), .slice vp rs.length vc] 34) :: box r (.cells #[v, u', .int .i64 A.p0, .int .i64 A.q0, v0, .int .i64 A.p1, .int .i64 A.q1, v1, .int .i64 A.p2, .int .i64 A.q2, v2] 152) :: (N ++ M))) (fun o _ => 62 - (intOf o).toNat)
  case atStart => exact ⟨0, u, [], by omega, rfl, HGB.out, Nat.le_refl _, HO⟩
  case round =>
    clear HO
    obtain ⟨k, u', N, hk, rfl, hR, hlk, HO⟩ := hrel
    by_cases hk60 : k < 60
    rotate_left
    · have hk' : k = 60 := by omega
      have hkI : ¬ ((k : Int) + 1 ≤ 60) := by omega
      subst hk'
      have HR := Lib.hid hR
      clear hR hlk hk60 NA0 NB0 D1 HIQ bB bA
      go_wp2_with (first | (((with_reducible apply wpList_loadAll HO); exact rfl; exact rfl; (repeat (with_reducible (exact At.head _))); infer_instance; exact rfl; exact rfl; (simp only [Act.put, zA, zB, zC]))) | ((with_reducible apply wpList_storePart HO); exact rfl; exact rfl; ((simp [Act.eval]; rfl)); exact rfl; (repeat (with_reducible (first | exact At.head _ | apply At.tail))); infer_instance; exact rfl; exact (by simp); (simp only [putL, List.drop_succ_cons, List.drop_zero, List.take_succ_cons, List.take_zero, List.length_cons, List.length_nil, List.cons_append, List.nil_append, List.append_nil, Nat.reduceAdd]; rfl); exact rfl; exact rfl; clear HO; intro w HO; (simp only [Act.put])))
      go_ret
      have h6 := HO.perm ((List.perm_append_comm (l₁ := [_, _]) (l₂ := [_])).append_right (N ++ M))
      simp only [List.cons_append, List.nil_append] at h6
      have h8 := fun (a b : Ent) => HR.out.mono (H := (a :: b :: N) ++ G) (fun e he => by
        rcases List.mem_append.1 he with he | he
        · exact List.mem_append_left _ (List.mem_cons_of_mem _ (List.mem_cons_of_mem _ he))
        · exact List.mem_append_right _ he)
      exact ⟨rfl, ⟨r, v, u', .slice t0 B.r0.length d0, .slice t1 B.r1.length d1, .slice t2 B.r2.length d2⟩, rfl, _ :: _ :: N, h6, h8 _ _⟩
    · have hkI : (k : Int) + 1 ≤ 60 := by omega
      have NA := Lib.hid (NA0.out ((k : Int) + 1))
      have NB := Lib.hid (NB0.out ((k : Int) + 1))
      have D2 : ∀ w, Calls Tryz.prog 91 #[.int .i64 ((k : Int) + 1)] w fun e w' => e = .returned (.string ⟨(Lib.decDigits (k + 1)).toArray⟩) ∧ Below w.heap.size w w' := fun w => digits24_any (k + 1) (by omega) w
      have hl2 : (Lib.decDigits (k + 1)).length ≤ 25 := by
        have := Lib.itoa_length_le ((k + 1 : Nat) : Int) (by omega) (by omega)
        rw [Lib.itoa_nonneg] at this
        omega
      have z1 : (⟨(Lib.decDigits qn).toArray⟩ : ByteArray).size ≤ 25 := by rw [str_size]; exact hlq
      have z2 : (⟨(Lib.decDigits (k + 1)).toArray⟩ : ByteArray).size ≤ 25 := by rw [str_size]; exact hl2
      have HS := Lib.hid (show sidK (qn : Int) ((k : Int) + 1) = (⟨#[115]⟩ : ByteArray) ++ ⟨(Lib.decDigits qn).toArray⟩ ++ ⟨#[45]⟩ ++ ⟨(Lib.decDigits (k + 1)).toArray⟩ from (HIQ.out _).trans (by unfold sdC; rw [show ((k : Int) + 1) = ((k + 1 : Nat) : Int) from rfl, Lib.itoa_nonneg]))
      have hnx := Lib.hid (show rawStmt S.P (byI A B) qn (k + 1) = if netI B ((k : Int) + 1) - netI A ((k : Int) + 1) = 0 then rawStmt S.P (byI A B) qn k else rawStmt S.P (byI A B) qn k ++ [stPst qn ((k : Int) + 1) (netI B ((k : Int) + 1) - netI A ((k : Int) + 1))] from rfl)
      have HSP := Lib.hid (fun x => show stPst qn ((k : Int) + 1) x = if x < 0 then ⟨sidK qn ((k : Int) + 1), (k : Int) + 1, 1, 2, -x⟩ else ⟨sidK qn ((k : Int) + 1), (k : Int) + 1, 2, 1, x⟩ from rfl)
      have bB1 := bB ((k : Int) + 1)
      have bA1 := bA ((k : Int) + 1)
      have HR := Lib.hid hR
      have HMN := Lib.hid (show ∀ e ∈ N ++ G, e ∈ N ++ M from fun e he => by
        rcases List.mem_append.1 he with he | he
        · exact List.mem_append_left _ he
        · exact List.mem_append_right _ (HM.out e he))
      clear NA0 NB0 bB bA HIQ hR hlq hl2
      generalize hPy : rawStmt S.P (byI A B) qn (k + 1) = Py at *
      generalize rawStmt S.P (byI A B) qn k = Px at *
      generalize netI B ((k : Int) + 1) = nb at *
      generalize netI A ((k : Int) + 1) = na at *
      generalize sidK qn ((k : Int) + 1) = id9 at *
      generalize (⟨(Lib.decDigits qn).toArray⟩ : ByteArray) = x1 at *
      generalize (⟨(Lib.decDigits (k + 1)).toArray⟩ : ByteArray) = x2 at *
      have q1 : ((⟨#[115]⟩ : ByteArray) ++ x1).size = 1 + x1.size := by rw [ByteArray.size_append]; rfl
      have q2 : ((⟨#[115]⟩ : ByteArray) ++ x1 ++ ⟨#[45]⟩).size = 1 + x1.size + 1 := by rw [ByteArray.size_append, q1]; rfl
      have a1 : ¬ (9223372036854775807 < (⟨#[115]⟩ : ByteArray).size + x1.size) := by show ¬ (9223372036854775807 < 1 + x1.size); omega
      have a1' : ¬ (9223372036854775807 < 1 + x1.size) := by omega
      have a2 : ¬ (9223372036854775807 < ((⟨#[115]⟩ : ByteArray) ++ x1).size + (⟨#[45]⟩ : ByteArray).size) := by rw [q1]; show ¬ (9223372036854775807 < 1 + x1.size + 1); omega
      have a2' : ¬ (9223372036854775807 < 1 + x1.size + 1) := by omega
      have a3 : ¬ (9223372036854775807 < ((⟨#[115]⟩ : ByteArray) ++ x1 ++ ⟨#[45]⟩).size + x2.size) := by rw [q2]; omega
      have a3' : ¬ (9223372036854775807 < 1 + x1.size + 1 + x2.size) := by omega
      have hwr : IntKind.i64.wrap (nb - na) = nb - na := wrap_in (inI_iff.2 (by omega))
      have hlx : Px.length ≤ 100000 := by omega
      have hp2 := fun (a b X : Ent) => (List.perm_append_comm (l₁ := [a, b]) (l₂ := [X])).append_right (N ++ M)
      have PO := Lib.hid (fun (d c' am : Int) (w : World) (a b : Ent) (h : Own W w (a :: b :: rcB ⟨r, v, u', v0, v1, v2⟩ A :: (N ++ M))) => rcPost_any (P := Px) id9 ((k : Int) + 1) d c' am (h.perm (hp2 a b _)) (fun w' L' h hM => (HR.out.at h (fun e he => hM e (.tail _ (.tail _ (HMN.out e he))))).b) hlx)
      go_upto_region 30 with (fail)
      refine region_own HO (by kernel_rfl) (by kernel_rfl) ?_
      clear HO
      intro F HF
      repeat (first | (first | ((with_reducible apply wpQuiet_loadAll HF); exact rfl; exact rfl; (repeat (with_reducible (exact At.head _))); infer_instance; exact rfl; exact rfl; (simp only [Act.put, zA, zB, zC])) | ((with_reducible apply wpQuiet_loadPart HF); exact rfl; exact rfl; (repeat (with_reducible (first | exact At.head _ | apply At.tail))); infer_instance; exact (Nat.le_of_ble_eq_true rfl); (simp only [List.drop_succ_cons, List.drop_zero, List.take_succ_cons, List.take_zero]; rfl); exact rfl; (simp only [Act.put, zA, zB, zC]))) | go_big_quiet_step ((go_at_call 90; first | (with_reducible exact calls_fam HF (NB.out _ _ (HF.own _) (by intro e he; exact List.mem_cons_of_mem _ (List.mem_cons_of_mem _ (List.mem_cons_of_mem _ (List.mem_append_right _ he)))))) | (with_reducible exact calls_fam HF (NA.out _ _ (HF.own _) (by intro e he; exact List.mem_cons_of_mem _ (List.mem_cons_of_mem _ (List.mem_cons_of_mem _ (List.mem_append_right _ he)))))))))
      refine wpQuiet_nil ?_
      intro x
      have HO := HF.own x
      clear HF
      generalize F x = w at *
      clear x F
      by_cases c1 : 0 < nb - na
      · rw [if_neg (by omega), HSP.out, if_neg (by omega)] at hnx
        replace hPy := Lib.hid (hPy.trans hnx.out)
        go_wp2_with (first | (((with_reducible apply wpList_loadOne HO); exact rfl; exact rfl; (repeat (with_reducible (first | exact At.head _ | apply At.tail))); exact rfl; infer_instance; exact rfl; (simp only [Act.put, zA, zB, zC]))) | (go_at_call 91; first | ((with_reducible refine (D1 _).mono ?_); (rintro e w ⟨rfl, hb⟩; replace HO := HO.call hb; clear hb)) | ((with_reducible refine (D2 _).mono ?_); (rintro e w ⟨rfl, hb⟩; replace HO := HO.call hb; clear hb))) | (go_at_call 92; rw [← HS.out]; go_must ((have h9 := PO.out 2 1 (nb - na) _ _ _ HO); (with_reducible refine h9.mono ?_); clear h9 HO; rintro e w ⟨rfl, u9, HO⟩)))
        go_roundw
        case rel =>
          have h6 := HO.perm ((List.perm_append_comm (l₁ := [_, _]) (l₂ := [_, _])).append_right (N ++ M))
          simp only [List.cons_append, List.nil_append] at h6
          exact ⟨k + 1, u9, row 187 5 u9 ((Px ++ [(⟨id9, (k : Int) + 1, 2, 1, nb - na⟩ : Pst)]).map pstC) :: N, by omega, by go_num, by rw [hPy.out]; exact HR.out.setP u9 (Px ++ [(⟨id9, (k : Int) + 1, 2, 1, nb - na⟩ : Pst)]) _, by rw [hPy.out]; simp; omega, h6⟩
        case measure => simp [intOf] <;> omega
      by_cases c2 : nb - na < 0
      · rw [if_neg (by omega), HSP.out, if_pos (by omega)] at hnx
        replace hPy := Lib.hid (hPy.trans hnx.out)
        go_wp2_with (first | (((with_reducible apply wpList_loadOne HO); exact rfl; exact rfl; (repeat (with_reducible (first | exact At.head _ | apply At.tail))); exact rfl; infer_instance; exact rfl; (simp only [Act.put, zA, zB, zC]))) | (go_at_call 91; first | ((with_reducible refine (D1 _).mono ?_); (rintro e w ⟨rfl, hb⟩; replace HO := HO.call hb; clear hb)) | ((with_reducible refine (D2 _).mono ?_); (rintro e w ⟨rfl, hb⟩; replace HO := HO.call hb; clear hb))) | (go_at_call 92; rw [← HS.out]; go_must ((have h9 := PO.out 1 2 (-(nb - na)) _ _ _ HO); (with_reducible refine h9.mono ?_); clear h9 HO; rintro e w ⟨rfl, u9, HO⟩)))
        go_roundw
        case rel =>
          have h6 := HO.perm ((List.perm_append_comm (l₁ := [_, _]) (l₂ := [_, _])).append_right (N ++ M))
          simp only [List.cons_append, List.nil_append] at h6
          exact ⟨k + 1, u9, row 187 5 u9 ((Px ++ [(⟨id9, (k : Int) + 1, 1, 2, -(nb - na)⟩ : Pst)]).map pstC) :: N, by omega, by go_num, by rw [hPy.out]; exact HR.out.setP u9 (Px ++ [(⟨id9, (k : Int) + 1, 1, 2, -(nb - na)⟩ : Pst)]) _, by rw [hPy.out]; simp; omega, h6⟩
        case measure => simp [intOf] <;> omega
      rw [if_pos (by omega)] at hnx
      replace hPy := Lib.hid (hPy.trans hnx.out)
      go_wp2_with (first | (((with_reducible apply wpList_loadOne HO); exact rfl; exact rfl; (repeat (with_reducible (first | exact At.head _ | apply At.tail))); exact rfl; infer_instance; exact rfl; (simp only [Act.put, zA, zB, zC]))) | (go_at_call 91; first | ((with_reducible refine (D1 _).mono ?_); (rintro e w ⟨rfl, hb⟩; replace HO := HO.call hb; clear hb)) | ((with_reducible refine (D2 _).mono ?_); (rintro e w ⟨rfl, hb⟩; replace HO := HO.call hb; clear hb))))
      go_roundw
      case rel =>
        exact ⟨k + 1, u', N, by omega, by go_num, by rw [hPy.out]; exact HR.out, by rw [hPy.out]; omega, HO⟩
      case measure => simp [intOf] <;> omega

/-- An entry: what the document's core comes to is what the program's does. -/
theorem rcApply_any {W w : World} {M G : List Ent} {x : RcA} {S : CoS} {A : InS} {v9 : Value} (y : EntS) (HO : Own W w (rcB x A :: M)) (hG : RcIn W G x S A) (hm : ∀ e ∈ G, e ∈ M) (hy : EntF W G y v9) (hI : CoInv S A) (hids : idsOk S.L) (hlen : S.P.length ≤ 99000) :
    Calls Tryz.prog 28 #[.pointer (some ⟨x.r, 0, none⟩), .agg #[.int .i64 (y).k, .int .i64 (y).id, .string ⟨(y).ref.toArray⟩, .string ⟨(y).sku.toArray⟩, .int .i64 (y).qty, .int .i64 (y).amt, .int .i64 (y).o, .int .i64 (y).d, .int .i64 (y).c, .int .i64 (y).p, .int .i64 (y).q, v9]] w fun e w' => e = .returned (.int .i64 (applyE S A y)) ∧ ∃ (x' : RcA) (N : List Ent), x'.r = x.r ∧ Own W w' (rcB x' (applyI A y) :: (N ++ M)) ∧ RcIn W (N ++ G) x' (applyS S A y) (applyI A y) := by
  rw [← (coInv_step hI hlen y).1]
  rcases five y.k with hk | hk | hk | hk | ⟨h1, h2, h3, h4⟩
  · rw [show applyE S A y = placeE S.L y.ord by unfold applyE; rw [if_pos hk], show rawS S A y = { S with L := placeL S.L y.ord } by unfold rawS; rw [if_pos hk], show applyI A y = A by unfold applyI; rw [if_neg (by rw [hk]; simp)]]
    exact rcApp1_any y HO hG hm hy hI.ok hk
  · rw [show applyE S A y = stopE S.L y.o by unfold applyE; rw [if_neg (by omega), if_pos hk], show rawS S A y = { S with L := stopL S.L y.o } by unfold rawS; rw [if_neg (by omega), if_pos hk], show applyI A y = A by unfold applyI; rw [if_neg (by rw [hk]; simp)]]
    exact rcApp2_any y HO hG hm hy hI.ok hids hk
  · rw [show applyE S A y = replyE S.L y.o y.d y.c by unfold applyE; rw [if_neg (by omega), if_neg (by omega), if_pos hk], show rawS S A y = rawReplyS S y.o y.d y.c by unfold rawS; rw [if_neg (by omega), if_neg (by omega), if_pos hk], show applyI A y = A by unfold applyI; rw [if_neg (by rw [hk]; simp)]]
    exact rcApp3_any y HO hG hm hy hI.ok hids hlen hk
  · rw [show applyE S A y = accE A y.p y.q y.rs by unfold applyE; rw [if_neg (by omega), if_neg (by omega), if_neg (by omega), if_pos hk]]
    by_cases ha : accE A y.p y.q y.rs = 0
    · rw [show rawS S A y = { S with P := rawStmt S.P (byI A (A.put y.p y.q y.rs)) y.q 60 } by unfold rawS; rw [if_neg (by omega), if_neg (by omega), if_neg (by omega), if_pos hk, if_pos ha], show applyI A y = A.put y.p y.q y.rs by unfold applyI; rw [if_pos ⟨hk, ha⟩], ha]
      exact rcApp4yes_any y HO hG hm hy hk hI.inok hlen ha
    · rw [show rawS S A y = S by unfold rawS; rw [if_neg (by omega), if_neg (by omega), if_neg (by omega), if_pos hk, if_neg ha], show applyI A y = A by unfold applyI; rw [if_neg (fun h => ha h.2)]]
      exact rcApp4no_any y HO hG hm hy hk ha
  · rw [show applyE S A y = 2 by unfold applyE; rw [if_neg h1, if_neg h2, if_neg h3, if_neg h4], show rawS S A y = S by unfold rawS; rw [if_neg h1, if_neg h2, if_neg h3, if_neg h4], show applyI A y = A by unfold applyI; rw [if_neg (fun h => h4 h.1)]]
    exact rcApp5_any y HO hG hm hy h1 h2 h3 h4
end Go.Proofs.YtibabfedpdoofaaGreatDoor
namespace Go.Proofs.YtibabfedpdoofaaGreatDoor
open Go.RowKit Go.Own

def greatE (x : EntS) : Bool := decide (200 < x.ref.length) || decide (200 < x.sku.length) || decide (100 < x.rs.length)
set_option maxHeartbeats 4000000 in
set_option maxRecDepth 100000 in
theorem great20_any {W : World} {v : Value} (x : EntS) (h : IsRows W v x.rs) (h1 : x.ref.length ≤ maxLen) (h2 : x.sku.length ≤ maxLen) :
    Calls Tryz.prog 64 #[.agg #[.int .i64 (x).k, .int .i64 (x).id, .string ⟨(x).ref.toArray⟩, .string ⟨(x).sku.toArray⟩, .int .i64 (x).qty, .int .i64 (x).amt, .int .i64 (x).o, .int .i64 (x).d, .int .i64 (x).c, .int .i64 (x).p, .int .i64 (x).q, v]] W fun e w' => e = .returned (.bool (greatE x)) ∧ Below W.heap.size W w' := by
  obtain ⟨sp, sc, rfl, hm⟩ := h.slice
  unfold maxLen at h1 h2 hm
  have HO := Own.start W
  have HQ := Lib.hid (show greatE x = (decide (200 < x.ref.length) || decide (200 < x.sku.length) || decide (100 < x.rs.length)) from rfl)
  clear h
  generalize greatE x = z at *
  generalize hr : x.rs.length = n at *
  clear hr
  by_cases g1 : 200 < x.ref.length
  · have g1' : (200 : Int) < (x.ref.length : Int) := by omega
    go_enter Tryz.func64, Tryz.ntmps64
    go_wp2_with ((first | go_big_skip | ((with_reducible apply wpList_loadOne HO); exact rfl; exact rfl; (repeat (with_reducible (exact At.head _))); exact rfl; infer_instance; exact rfl; (simp only [Act.put, zA, zB, zC])) | (((with_reducible apply wpList_boxAgg _ HO rfl); exact rfl; exact rfl; exact rfl; clear HO; intro b0 w HO; (simp only [Act.put, zA, zB, zC])))))
    go_ret
    exact ⟨by rw [HQ.out]; simp [g1], HO.grown⟩
  · have g1' : decide ((200 : Int) < (x.ref.length : Int)) = false := by simp; omega
    by_cases g2 : 200 < x.sku.length
    · have g2' : (200 : Int) < (x.sku.length : Int) := by omega
      go_enter Tryz.func64, Tryz.ntmps64
      go_wp2_with ((first | go_big_skip | ((with_reducible apply wpList_loadOne HO); exact rfl; exact rfl; (repeat (with_reducible (exact At.head _))); exact rfl; infer_instance; exact rfl; (simp only [Act.put, zA, zB, zC])) | (((with_reducible apply wpList_boxAgg _ HO rfl); exact rfl; exact rfl; exact rfl; clear HO; intro b0 w HO; (simp only [Act.put, zA, zB, zC])))))
      go_ret
      exact ⟨by rw [HQ.out]; simp [g2], HO.grown⟩
    · have g2' : decide ((200 : Int) < (x.sku.length : Int)) = false := by simp; omega
      by_cases g3 : 100 < n
      · have g3' : (100 : Int) < (n : Int) := by omega
        go_enter Tryz.func64, Tryz.ntmps64
        go_wp2_with ((first | ((with_reducible apply wpList_loadOne HO); exact rfl; exact rfl; (repeat (with_reducible (exact At.head _))); exact rfl; infer_instance; exact rfl; (simp only [Act.put, zA, zB, zC])) | (((with_reducible apply wpList_boxAgg _ HO rfl); exact rfl; exact rfl; exact rfl; clear HO; intro b0 w HO; (simp only [Act.put, zA, zB, zC])))))
        go_ret
        exact ⟨by rw [HQ.out]; simp [g3], HO.grown⟩
      · have g3' : decide ((100 : Int) < (n : Int)) = false := by simp; omega
        go_enter Tryz.func64, Tryz.ntmps64
        go_wp2_with ((first | ((with_reducible apply wpList_loadOne HO); exact rfl; exact rfl; (repeat (with_reducible (exact At.head _))); exact rfl; infer_instance; exact rfl; (simp only [Act.put, zA, zB, zC])) | (((with_reducible apply wpList_boxAgg _ HO rfl); exact rfl; exact rfl; exact rfl; clear HO; intro b0 w HO; (simp only [Act.put, zA, zB, zC])))))
        go_ret
        exact ⟨by rw [HQ.out]; simp [g1, g2, g3], HO.grown⟩
end Go.Proofs.YtibabfedpdoofaaGreatDoor
namespace Go.Proofs.YtibabfedpdoofaaGreatDoor
open Go.RowKit Go.Own

/-- An entry with its rows' slice. -/
structure EntI where
  x : EntS
  v : Value
def entC (e : EntI) : List Value := [.int .i64 e.x.k, .int .i64 e.x.id, .string ⟨e.x.ref.toArray⟩, .string ⟨e.x.sku.toArray⟩, .int .i64 e.x.qty, .int .i64 e.x.amt, .int .i64 e.x.o, .int .i64 e.x.d, .int .i64 e.x.c, .int .i64 e.x.p, .int .i64 e.x.q, e.v]
/-- Entries in memory. -/
structure IsEnts (W : World) (v : Value) (es : List EntI) : Prop where
  l : IsL W 12 v (es.map entC)
  r : ∀ e ∈ es, IsRows W e.v e.x.rs ∧ e.x.ref.length ≤ maxLen ∧ e.x.sku.length ≤ maxLen ∧ inI e.x.o = true
theorem IsEnts.below {W w : World} {v : Value} {es : List EntI} (h : IsEnts W v es) (hb : Below W.heap.size W w) : IsEnts w v es := ⟨h.l.below hb h.l.lt, fun e he => ⟨(h.r e he).1.below hb (h.r e he).1.lt, (h.r e he).2⟩⟩
theorem IsEnts.ent {W : World} {v : Value} {es : List EntI} (h : IsEnts W v es) {e : EntI} (he : e ∈ es) (M : List Ent) : EntW W M e.x e.v := ⟨.old (h.r e he).1 M, (h.r e he).2.1, (h.r e he).2.2.1, (h.r e he).2.2.2⟩
def great1 (e : EntI) : Bool := greatE e.x || decide (60 < e.x.rs.length)
def greatL (es : List EntI) (most : Int) : Bool := es.any great1 || decide (most < (es.length : Int))

set_option maxHeartbeats 8000000 in
set_option maxRecDepth 100000 in
theorem great24_any {W : World} {v : Value} {es : List EntI} (most : Int) (h : IsEnts W v es) : Calls Tryz.prog 11 #[v, .int .i64 most] W fun e w' => e = .returned (.bool (greatL es most)) ∧ Below W.heap.size W w' := by
  have HH := Lib.hid h.l
  have HR := Lib.hid h
  obtain ⟨sp, sc, rfl, hmx⟩ := h.l.slice
  rw [List.length_map] at hmx HH HR ⊢
  have hmx' : (es.length : Int) ≤ 9223372036854775807 := by unfold maxLen at hmx; omega
  have HO := Own.start W
  generalize hg : greatL es most = g0
  replace hg := Lib.hid hg
  clear h
  go_enter Tryz.func11, Tryz.ntmps11
  go_wp2_with fail
  go_loopw [5] (fun i wr => ∃ j : Nat, j ≤ es.length ∧ i = .int .i64 (j : Int) ∧ (es.take j).any great1 = false ∧ Own W wr []) (fun i _ => es.length - (intOf i).toNat)
  case atStart => exact ⟨0, by omega, rfl, rfl, HO⟩
  case round =>
    clear HO
    obtain ⟨j, hj, rfl, hnf, HO⟩ := hrel
    by_cases hjl : j < es.length
    · have hjI : (j : Int) < (es.length : Int) := by omega
      obtain ⟨a, rfl, hst⟩ := oldAt HH.out rfl hjl
      have hr := HR.out.r _ (List.getElem_mem hjl)
      have HX := Lib.hid (show great1 es[j] = false → (es.take (j + 1)).any great1 = false from fun hx => by
        rw [List.take_succ_eq_append_getElem hjl, List.any_append, hnf]
        simpa using hx)
      have HY := Lib.hid (show great1 es[j] = true → greatL es most = true from fun hx => by
        unfold greatL
        rw [List.any_eq_true.2 ⟨es[j], List.getElem_mem hjl, hx⟩, Bool.true_or])
      clear hnf
      generalize es[j] = y at *
      obtain ⟨x, u⟩ := y
      obtain ⟨q1, c1, hu, hq⟩ := hr.1.slice
      simp only at hu hr
      subst hu
      have G := fun w (hb : Below W.heap.size W w) => great20_any x (hr.1.below hb hr.1.lt) hr.2.1 hr.2.2.1
      unfold entC at hst
      have hz := Lib.hid (show great1 ⟨x, .slice q1 x.rs.length c1⟩ = (greatE x || decide (60 < x.rs.length)) from rfl)
      have h11 := Lib.hid (fun w' (hb : Below W.heap.size W w') => hst w' hb 11 _ rfl)
      replace hst := Lib.hid hst
      clear hr
      generalize greatE x = ge at *
      cases ge with
      | true =>
        obtain rfl : g0 = true := hg.out.symm.trans (HY.out hz.out)
        clear HX HY hz
        go_wp2_with (first | ((with_reducible apply wpList_loadAt HO); exact rfl; exact rfl; exact (fun w' h1 => hst.out w' h1.grown); infer_instance; exact rfl; exact rfl; (simp only [Act.put, zA, zB, zC])) | (go_at_call 64; go_must ((with_reducible refine (G _ HO.grown).mono ?_); rintro e w ⟨rfl, hb⟩; replace HO := HO.call hb; clear hb)))
        go_ret
        exact ⟨rfl, HO.grown⟩
      | false =>
        rw [Bool.false_or] at hz
        by_cases h60 : 60 < x.rs.length
        · have h60I : (60 : Int) < (x.rs.length : Int) := by omega
          obtain rfl : g0 = true := hg.out.symm.trans (HY.out (hz.out.trans (decide_eq_true h60)))
          clear HX HY hz h60
          go_wp2_with (first | ((with_reducible apply wpList_loadAt HO); exact rfl; exact rfl; exact (fun w' h1 => hst.out w' h1.grown); infer_instance; exact rfl; exact rfl; (simp only [Act.put, zA, zB, zC])) | ((with_reducible apply wpList_loadAt1 HO); exact rfl; exact rfl; exact (fun w' h1 => h11.out w' h1.grown); infer_instance; exact rfl; (simp only [Act.put, zA, zB, zC])) | (go_at_call 64; go_must ((with_reducible refine (G _ HO.grown).mono ?_); rintro e w ⟨rfl, hb⟩; replace HO := HO.call hb; clear hb)))
          go_ret
          exact ⟨rfl, HO.grown⟩
        · have h60I : ¬ (60 : Int) < (x.rs.length : Int) := by omega
          have HZ := Lib.hid (HX.out (hz.out.trans (decide_eq_false h60)))
          clear HX HY hz h60
          go_wp2_with (first | ((with_reducible apply wpList_loadAt HO); exact rfl; exact rfl; exact (fun w' h1 => hst.out w' h1.grown); infer_instance; exact rfl; exact rfl; (simp only [Act.put, zA, zB, zC])) | ((with_reducible apply wpList_loadAt1 HO); exact rfl; exact rfl; exact (fun w' h1 => h11.out w' h1.grown); infer_instance; exact rfl; (simp only [Act.put, zA, zB, zC])) | (go_at_call 64; go_must ((with_reducible refine (G _ HO.grown).mono ?_); rintro e w ⟨rfl, hb⟩; replace HO := HO.call hb; clear hb)))
          go_roundw
          case rel => exact ⟨j + 1, by omega, by go_num, HZ.out, HO⟩
          case measure => simp [intOf] <;> omega
    · obtain rfl : j = es.length := by omega
      rw [List.take_length] at hnf
      have HQ := Lib.hid (show greatL es most = decide (most < (es.length : Int)) by unfold greatL; rw [hnf, Bool.false_or])
      obtain rfl : g0 = decide (most < (es.length : Int)) := hg.out.symm.trans HQ.out
      clear hnf
      go_wp2_with fail
      go_ret
      exact ⟨rfl, HO.grown⟩
end Go.Proofs.YtibabfedpdoofaaGreatDoor
namespace Go.Proofs.YtibabfedpdoofaaGreatDoor
open Go.RowKit Go.Own Go.Maps

/-- Entries that stand in old memory, or in some pieces of one's own. -/
structure EntsIn (W : World) (G : List Ent) (v : Value) (es : List EntI) : Prop where
  l : ∀ w' : World, Below W.heap.size W w' → (∀ e ∈ G, e.F w') → IsL w' 12 v (es.map entC)
  r : ∀ e ∈ es, EntF W G e.x e.v
theorem IsEnts.into {W : World} {v : Value} {es : List EntI} (h : IsEnts W v es) (G : List Ent) : EntsIn W G v es :=
  ⟨fun _ hb _ => h.l.below hb h.l.lt, fun e he => ⟨.old (h.r e he).1 G, (h.r e he).2.1, (h.r e he).2.2.1, (h.r e he).2.2.2⟩⟩
end Go.Proofs.YtibabfedpdoofaaGreatDoor
namespace Go.Proofs.YtibabfedpdoofaaGreatDoor
open Go.RowKit Go.Own Go.Maps

theorem infoIntH : (Tryz.prog.info? 3).map (fun i => (i.zero, i.size, i.bytes)) = some (some (.int .i64 0), 1, 8) := by kernel_rfl
def deedsH (s : D6) : Value := .agg #[.int .i64 s.a, .int .i64 s.b, .int .i64 s.c, .int .i64 s.d, .int .i64 s.e, .int .i64 s.f]
def sameDH (t s : D6) : Bool := decide (t.a = s.a) && decide (t.b = s.b) && decide (t.c = s.c) && decide (t.d = s.d) && decide (t.e = s.e) && decide (t.f = s.f)
def sagaEqH (o : OrdS) (s : D6) (o' : OrdS) (s' : D6) : Bool := decide (o.id = o'.id) && decide (o.ref = o'.ref) && decide (o.sku = o'.sku) && decide (o.qty = o'.qty) && decide (o.amt = o'.amt) && decide (s = s')
theorem sameDH_eq (t s : D6) : (sameDH t s && decide (t.x = s.x)) = decide (t = s) := by
  obtain ⟨a, b, c, d, e, f, x⟩ := s
  obtain ⟨a', b', c', d', e', f', x'⟩ := t
  rw [Bool.eq_iff_iff]
  simp [sameDH, and_assoc]
theorem run_deeds_inH (t s : D6) (w : World) : (Op.equalIn 9999 70 (deedsH t) (deedsH s)).run Tryz.prog w = .ok (sameDH t s) w := by
  obtain ⟨a, b, c, d, e, f, x⟩ := s
  obtain ⟨a', b', c', d', e', f', x'⟩ := t
  simp only [deedsH]
  obtain ⟨i0, hi, hz0, hz1, hz2⟩ := info_parts infoIntH
  have hr : List.range 6 = [0, 1, 2, 3, 4, 5] := by decide
  have hc : Tryz.prog.cellsOf 3 = 1 := by kernel_rfl
  rw [show (9999 : Nat) = 9998 + 1 from rfl, run_equalIn_array w 9998 _ _ Tryz.underlying70 hi, hr, hc]
  simp only [Op.eqItems]
  go_simp
  simp [sameDH]
  (repeat' split) <;> simp_all
theorem run_sagaP_eql (o o' : OrdS) (s s' : D6) (w : World) : (binOp .eql 72 (.agg (sagaL (o, s)).toArray) (.agg (sagaL (o', s')).toArray)).run Tryz.prog w = .ok (.bool (sagaEqH o s o' s')) w := by
  have hd := run_deeds_inH s s' w
  simp only [deedsH] at hd
  simp only [sagaL]
  go_simp
  unfold sagaEqH
  rw [← sameDH_eq]
  by_cases h1 : o.id = o'.id <;> by_cases h2 : o.ref = o'.ref <;> by_cases h3 : o.sku = o'.sku <;> by_cases h4 : o.qty = o'.qty <;> by_cases h5 : o.amt = o'.amt <;> simp [h1, h2, h3, h4, h5]
  by_cases h6 : sameDH s s' = true <;> by_cases h7 : s.x = s'.x <;> simp [h6, h7]
theorem run_sagaR_eql (o o' : OrdS) (s s' : D6) (w : World) : (binOp .eql 124 (.agg (sagaL (o, s)).toArray) (.agg (sagaL (o', s')).toArray)).run Tryz.prog w = .ok (.bool (sagaEqH o s o' s')) w := by
  have hd := run_deeds_inH s s' w
  simp only [deedsH] at hd
  simp only [sagaL]
  go_simp
  unfold sagaEqH
  rw [← sameDH_eq]
  by_cases h1 : o.id = o'.id <;> by_cases h2 : o.ref = o'.ref <;> by_cases h3 : o.sku = o'.sku <;> by_cases h4 : o.qty = o'.qty <;> by_cases h5 : o.amt = o'.amt <;> simp [h1, h2, h3, h4, h5]
  by_cases h6 : sameDH s s' = true <;> by_cases h7 : s.x = s'.x <;> simp [h6, h7]
end Go.Proofs.YtibabfedpdoofaaGreatDoor
namespace Go.Proofs.YtibabfedpdoofaaGreatDoor
open Go.RowKit Go.Own Go.Maps

/-- The document's line. -/
structure HisS where
  k : Int
  a : Int
  b : Int
  o : OrdS
  err : Int
  id : Int
  amt : Int
  so : OrdS
  sd : D6
/-- The program's line: what the document's has, and more. -/
structure HisI where
  x : HisS
  t : List UInt8
  kp : Option Addr
  kn : Nat
  kc : Nat
  r0 : Int
  r1 : Int
  r2 : Int
  dp : Option Addr
  dn : Nat
  dc : Nat
def hisC (y : HisI) : List Value := [.int .i64 y.x.k, .int .i64 y.x.o.id, .string ⟨y.x.o.ref.toArray⟩, .string ⟨y.x.o.sku.toArray⟩, .int .i64 y.x.o.qty, .int .i64 y.x.o.amt, .int .i64 y.x.a, .int .i64 y.x.b, .string ⟨y.t.toArray⟩, .slice y.kp y.kn y.kc,
  .int .i64 y.x.err, .int .i64 y.r0, .int .i64 y.r1, .int .i64 y.r2, .int .i64 y.x.id, .int .i64 y.x.amt,
  .int .i64 y.x.so.id, .string ⟨y.x.so.ref.toArray⟩, .string ⟨y.x.so.sku.toArray⟩, .int .i64 y.x.so.qty, .int .i64 y.x.so.amt, .int .i64 y.x.sd.a, .int .i64 y.x.sd.b, .int .i64 y.x.sd.c, .int .i64 y.x.sd.d, .int .i64 y.x.sd.e, .int .i64 y.x.sd.f, .bool y.x.sd.x, .slice y.dp y.dn y.dc]
def rhC (x : HisS) : List Value := [.int .i64 x.k, .int .i64 x.a, .int .i64 x.b, .int .i64 x.o.id, .string ⟨x.o.ref.toArray⟩, .string ⟨x.o.sku.toArray⟩, .int .i64 x.o.qty, .int .i64 x.o.amt, .int .i64 x.err, .int .i64 x.id, .int .i64 x.amt,
  .int .i64 x.so.id, .string ⟨x.so.ref.toArray⟩, .string ⟨x.so.sku.toArray⟩, .int .i64 x.so.qty, .int .i64 x.so.amt, .int .i64 x.sd.a, .int .i64 x.sd.b, .int .i64 x.sd.c, .int .i64 x.sd.d, .int .i64 x.sd.e, .int .i64 x.sd.f, .bool x.sd.x]
def kindH (k : Int) : Int := if k = 1 then 1 else if k = 2 then 2 else if k = 3 then 3 else if k = 4 then 4 else 0
def ofH (x : HisS) : HisS := { x with k := kindH x.k }
def takesH (x : HisS) : Bool := (x.k == 1 || x.k == 2 || x.k == 3 || x.k == 4) && !(x.err == 61) && !(x.err == 60) && !(x.err == 3) && !(x.err == 1)
theorem kindH_cases (k : Int) : (k = 1 ∧ kindH k = 1) ∨ (k = 2 ∧ kindH k = 2) ∨ (k = 3 ∧ kindH k = 3) ∨ (k = 4 ∧ kindH k = 4) ∨ (k ≠ 1 ∧ k ≠ 2 ∧ k ≠ 3 ∧ k ≠ 4 ∧ kindH k = 0) := by
  unfold kindH
  (repeat' split) <;> simp_all
theorem takes_of (x : HisS) : takesH (ofH x) = takesH x := by
  unfold takesH ofH
  rcases kindH_cases x.k with ⟨h, h'⟩ | ⟨h, h'⟩ | ⟨h, h'⟩ | ⟨h, h'⟩ | ⟨h1, h2, h3, h4, h'⟩ <;> simp only [h'] <;> simp [*]

set_option maxHeartbeats 8000000 in
set_option maxRecDepth 100000 in
theorem of_any (y : HisI) (w : World) : Calls Tryz.prog 59 #[.agg (hisC y).toArray] w fun e w' => e = .returned (.agg (rhC (ofH y.x)).toArray) ∧ Below w.heap.size w w' := by
  have HO := Own.start w
  obtain ⟨⟨k, a, b, ⟨oid, oref, osku, oq, oa⟩, err, id, amt, ⟨soid, soref, sosku, soq, soa⟩, ⟨d0, d1, d2, d3, d4, d5, dx⟩⟩, t, kp, kn, kc, r0, r1, r2, dp, dn, dc⟩ := y
  unfold hisC rhC ofH
  simp only
  rcases kindH_cases k with ⟨rfl, h'⟩ | ⟨rfl, h'⟩ | ⟨rfl, h'⟩ | ⟨rfl, h'⟩ | ⟨h1, h2, h3, h4, h'⟩
  rotate_right
  · replace h1 : (k == 1) = false := by simpa using h1
    replace h2 : (k == 2) = false := by simpa using h2
    replace h3 : (k == 3) = false := by simpa using h3
    replace h4 : (k == 4) = false := by simpa using h4
    rw [h']
    clear h'
    go_enter Tryz.func59, Tryz.ntmps59
    go_wp2_with (first | (first | ((with_reducible apply wpList_loadAll HO); exact rfl; exact rfl; (repeat (with_reducible (first | exact At.head _ | apply At.tail))); infer_instance; exact rfl; exact rfl; (simp only [Act.put, zA, zB, zC])) | ((with_reducible apply wpList_loadOne HO); exact rfl; exact rfl; (repeat (with_reducible (first | exact At.head _ | apply At.tail))); exact rfl; infer_instance; exact rfl; (simp only [Act.put, zA, zB, zC]))) | ((with_reducible apply wpList_storeAll HO); exact rfl; exact rfl; exact rfl; (repeat (with_reducible (first | exact At.head _ | apply At.tail))); infer_instance; exact rfl; exact rfl; exact rfl; exact rfl; clear HO; intro w HO; (simp only [Act.put])) | (first | ((with_reducible apply wpList_boxAgg _ HO rfl); exact rfl; exact rfl; exact rfl; clear HO; intro b1 w HO; (simp only [Act.put, zA, zB, zC])) | ((with_reducible apply wpList_allocAgg _ HO rfl); exact rfl; infer_instance; exact rfl; clear HO; intro b1 w HO; (simp only [Act.put, zA, zB, zC]))) | ((with_reducible apply wpList_loadPart HO); exact rfl; exact rfl; (repeat (with_reducible (first | exact At.head _ | apply At.tail))); infer_instance; exact (Nat.le_of_ble_eq_true rfl); (simp only [List.drop_succ_cons, List.drop_zero, List.take_succ_cons, List.take_zero]; rfl); exact rfl; (simp only [Act.put, zA, zB, zC])))
    refine bodyPost_ret (results_one HO rfl rfl (by (repeat (with_reducible (first | exact At.head _ | apply At.tail)))) inferInstance rfl) rfl ?_
    exact ⟨rfl, HO.grown⟩
  all_goals
    rw [h']
    clear h'
    go_enter Tryz.func59, Tryz.ntmps59
    go_wp2_with (first | (first | ((with_reducible apply wpList_loadAll HO); exact rfl; exact rfl; (repeat (with_reducible (first | exact At.head _ | apply At.tail))); infer_instance; exact rfl; exact rfl; (simp only [Act.put, zA, zB, zC])) | ((with_reducible apply wpList_loadOne HO); exact rfl; exact rfl; (repeat (with_reducible (first | exact At.head _ | apply At.tail))); exact rfl; infer_instance; exact rfl; (simp only [Act.put, zA, zB, zC]))) | ((with_reducible apply wpList_storeAll HO); exact rfl; exact rfl; exact rfl; (repeat (with_reducible (first | exact At.head _ | apply At.tail))); infer_instance; exact rfl; exact rfl; exact rfl; exact rfl; clear HO; intro w HO; (simp only [Act.put])) | (first | ((with_reducible apply wpList_boxAgg _ HO rfl); exact rfl; exact rfl; exact rfl; clear HO; intro b1 w HO; (simp only [Act.put, zA, zB, zC])) | ((with_reducible apply wpList_allocAgg _ HO rfl); exact rfl; infer_instance; exact rfl; clear HO; intro b1 w HO; (simp only [Act.put, zA, zB, zC]))) | ((with_reducible apply wpList_storeOne HO); exact rfl; exact rfl; ((simp [Act.eval]; rfl)); exact rfl; (repeat (with_reducible (exact At.head _))); infer_instance; exact (by simp); (simp only [List.set_cons_zero]; rfl); exact rfl; clear HO; intro w HO; (simp only [Act.put])) | ((with_reducible apply wpList_loadPart HO); exact rfl; exact rfl; (repeat (with_reducible (first | exact At.head _ | apply At.tail))); infer_instance; exact (Nat.le_of_ble_eq_true rfl); (simp only [List.drop_succ_cons, List.drop_zero, List.take_succ_cons, List.take_zero]; rfl); exact rfl; (simp only [Act.put, zA, zB, zC])))
    refine bodyPost_ret (results_one HO rfl rfl (by (repeat (with_reducible (first | exact At.head _ | apply At.tail)))) inferInstance rfl) rfl ?_
    exact ⟨rfl, HO.grown⟩

set_option maxHeartbeats 8000000 in
set_option maxRecDepth 100000 in
theorem takes_any (y : HisI) (w : World) : Calls Tryz.prog 60 #[.agg (hisC y).toArray] w fun e w' => e = .returned (.bool (takesH y.x)) ∧ Below w.heap.size w w' := by
  have HO := Own.start w
  obtain ⟨⟨k, a, b, ⟨oid, oref, osku, oq, oa⟩, err, id, amt, ⟨soid, soref, sosku, soq, soa⟩, ⟨d0, d1, d2, d3, d4, d5, dx⟩⟩, t, kp, kn, kc, r0, r1, r2, dp, dn, dc⟩ := y
  unfold hisC takesH
  simp only
  cases h1 : (err == 61)
  rotate_left
  · go_enter Tryz.func60, Tryz.ntmps60
    go_wp2_with (first | (((with_reducible apply wpList_loadOne HO); exact rfl; exact rfl; (repeat (with_reducible (exact At.head _))); exact rfl; infer_instance; exact rfl; (simp only [Act.put, zA, zB, zC]))) | (((with_reducible apply wpList_boxAgg _ HO rfl); exact rfl; exact rfl; exact rfl; clear HO; intro b1 w HO; (simp only [Act.put, zA, zB, zC]))))
    go_ret
    exact ⟨by simp, HO.grown⟩
  cases h2 : (err == 60)
  rotate_left
  · go_enter Tryz.func60, Tryz.ntmps60
    go_wp2_with (first | (((with_reducible apply wpList_loadOne HO); exact rfl; exact rfl; (repeat (with_reducible (exact At.head _))); exact rfl; infer_instance; exact rfl; (simp only [Act.put, zA, zB, zC]))) | (((with_reducible apply wpList_boxAgg _ HO rfl); exact rfl; exact rfl; exact rfl; clear HO; intro b1 w HO; (simp only [Act.put, zA, zB, zC]))))
    go_ret
    exact ⟨by simp, HO.grown⟩
  cases h3 : (err == 3)
  rotate_left
  · go_enter Tryz.func60, Tryz.ntmps60
    go_wp2_with (first | (((with_reducible apply wpList_loadOne HO); exact rfl; exact rfl; (repeat (with_reducible (exact At.head _))); exact rfl; infer_instance; exact rfl; (simp only [Act.put, zA, zB, zC]))) | (((with_reducible apply wpList_boxAgg _ HO rfl); exact rfl; exact rfl; exact rfl; clear HO; intro b1 w HO; (simp only [Act.put, zA, zB, zC]))))
    go_ret
    exact ⟨by simp, HO.grown⟩
  cases h4 : (err == 1)
  rotate_left
  · go_enter Tryz.func60, Tryz.ntmps60
    go_wp2_with (first | (((with_reducible apply wpList_loadOne HO); exact rfl; exact rfl; (repeat (with_reducible (exact At.head _))); exact rfl; infer_instance; exact rfl; (simp only [Act.put, zA, zB, zC]))) | (((with_reducible apply wpList_boxAgg _ HO rfl); exact rfl; exact rfl; exact rfl; clear HO; intro b1 w HO; (simp only [Act.put, zA, zB, zC]))))
    go_ret
    exact ⟨by simp, HO.grown⟩
  cases k1 : (k == 1)
  rotate_left
  · go_enter Tryz.func60, Tryz.ntmps60
    go_wp2_with (first | (((with_reducible apply wpList_loadOne HO); exact rfl; exact rfl; (repeat (with_reducible (exact At.head _))); exact rfl; infer_instance; exact rfl; (simp only [Act.put, zA, zB, zC]))) | (((with_reducible apply wpList_boxAgg _ HO rfl); exact rfl; exact rfl; exact rfl; clear HO; intro b1 w HO; (simp only [Act.put, zA, zB, zC]))))
    go_ret
    exact ⟨by simp, HO.grown⟩
  cases k2 : (k == 2)
  rotate_left
  · go_enter Tryz.func60, Tryz.ntmps60
    go_wp2_with (first | (((with_reducible apply wpList_loadOne HO); exact rfl; exact rfl; (repeat (with_reducible (exact At.head _))); exact rfl; infer_instance; exact rfl; (simp only [Act.put, zA, zB, zC]))) | (((with_reducible apply wpList_boxAgg _ HO rfl); exact rfl; exact rfl; exact rfl; clear HO; intro b1 w HO; (simp only [Act.put, zA, zB, zC]))))
    go_ret
    exact ⟨by simp, HO.grown⟩
  cases k3 : (k == 3)
  rotate_left
  · go_enter Tryz.func60, Tryz.ntmps60
    go_wp2_with (first | (((with_reducible apply wpList_loadOne HO); exact rfl; exact rfl; (repeat (with_reducible (exact At.head _))); exact rfl; infer_instance; exact rfl; (simp only [Act.put, zA, zB, zC]))) | (((with_reducible apply wpList_boxAgg _ HO rfl); exact rfl; exact rfl; exact rfl; clear HO; intro b1 w HO; (simp only [Act.put, zA, zB, zC]))))
    go_ret
    exact ⟨by simp, HO.grown⟩
  cases k4 : (k == 4)
  rotate_left
  · go_enter Tryz.func60, Tryz.ntmps60
    go_wp2_with (first | (((with_reducible apply wpList_loadOne HO); exact rfl; exact rfl; (repeat (with_reducible (exact At.head _))); exact rfl; infer_instance; exact rfl; (simp only [Act.put, zA, zB, zC]))) | (((with_reducible apply wpList_boxAgg _ HO rfl); exact rfl; exact rfl; exact rfl; clear HO; intro b1 w HO; (simp only [Act.put, zA, zB, zC]))))
    go_ret
    exact ⟨by simp, HO.grown⟩
  · go_enter Tryz.func60, Tryz.ntmps60
    go_wp2_with (first | (((with_reducible apply wpList_loadOne HO); exact rfl; exact rfl; (repeat (with_reducible (exact At.head _))); exact rfl; infer_instance; exact rfl; (simp only [Act.put, zA, zB, zC]))) | (((with_reducible apply wpList_boxAgg _ HO rfl); exact rfl; exact rfl; exact rfl; clear HO; intro b1 w HO; (simp only [Act.put, zA, zB, zC]))))
    go_ret
    exact ⟨by simp, HO.grown⟩

set_option maxHeartbeats 8000000 in
set_option maxRecDepth 100000 in
theorem rtakes_any (x : HisS) (hk : x.k = 0 ∨ x.k = 1 ∨ x.k = 2 ∨ x.k = 3 ∨ x.k = 4) (w : World) : Calls Tryz.prog 61 #[.agg (rhC x).toArray] w fun e w' => e = .returned (.bool (takesH x)) ∧ Below w.heap.size w w' := by
  have HO := Own.start w
  obtain ⟨k, a, b, ⟨oid, oref, osku, oq, oa⟩, err, id, amt, ⟨soid, soref, sosku, soq, soa⟩, ⟨d0, d1, d2, d3, d4, d5, dx⟩⟩ := x
  simp only at hk
  obtain ⟨g0, hg⟩ : ∃ g, takesH ⟨k, a, b, ⟨oid, oref, osku, oq, oa⟩, err, id, amt, ⟨soid, soref, sosku, soq, soa⟩, ⟨d0, d1, d2, d3, d4, d5, dx⟩⟩ = g := ⟨_, rfl⟩
  rw [hg]
  unfold takesH at hg
  simp only at hg
  unfold rhC
  simp only
  rcases hk with rfl | hk
  · obtain rfl : g0 = false := by rw [← hg]; simp
    clear hg
    go_enter Tryz.func61, Tryz.ntmps61
    go_wp2_with (first | go_big_skip | (((with_reducible apply wpList_loadOne HO); exact rfl; exact rfl; (repeat (with_reducible (exact At.head _))); exact rfl; infer_instance; exact rfl; (simp only [Act.put, zA, zB, zC]))) | (((with_reducible apply wpList_boxAgg _ HO rfl); exact rfl; exact rfl; exact rfl; clear HO; intro b1 w HO; (simp only [Act.put, zA, zB, zC]))))
    go_ret
    exact ⟨rfl, HO.grown⟩
  have hk1 : (k == 1 || k == 2 || k == 3 || k == 4) = true := by simpa [or_assoc] using hk
  have c1 : decide (0 < k) = true := decide_eq_true (by omega)
  have c2 : decide (k < 5) = true := decide_eq_true (by omega)
  clear hk
  rw [hk1] at hg
  clear hk1
  cases h1 : (err == 1)
  rotate_left
  · have m1 : (err != 1) = false := by rw [bne, h1]; rfl
    obtain rfl : g0 = false := by rw [← hg]; simp [h1]
    clear hg
    go_enter Tryz.func61, Tryz.ntmps61
    go_wp2_with (first | go_big_skip | (((with_reducible apply wpList_loadOne HO); exact rfl; exact rfl; (repeat (with_reducible (exact At.head _))); exact rfl; infer_instance; exact rfl; (simp only [Act.put, zA, zB, zC]))) | (((with_reducible apply wpList_boxAgg _ HO rfl); exact rfl; exact rfl; exact rfl; clear HO; intro b1 w HO; (simp only [Act.put, zA, zB, zC]))))
    go_ret
    exact ⟨rfl, HO.grown⟩
  have m1 : (err != 1) = true := by rw [bne, h1]; rfl
  cases h2 : (err == 3)
  rotate_left
  · have m2 : (err != 3) = false := by rw [bne, h2]; rfl
    obtain rfl : g0 = false := by rw [← hg]; simp [h1, h2]
    clear hg
    go_enter Tryz.func61, Tryz.ntmps61
    go_wp2_with (first | go_big_skip | (((with_reducible apply wpList_loadOne HO); exact rfl; exact rfl; (repeat (with_reducible (exact At.head _))); exact rfl; infer_instance; exact rfl; (simp only [Act.put, zA, zB, zC]))) | (((with_reducible apply wpList_boxAgg _ HO rfl); exact rfl; exact rfl; exact rfl; clear HO; intro b1 w HO; (simp only [Act.put, zA, zB, zC]))))
    go_ret
    exact ⟨rfl, HO.grown⟩
  have m2 : (err != 3) = true := by rw [bne, h2]; rfl
  cases h3 : (err == 60)
  rotate_left
  · have m3 : (err != 60) = false := by rw [bne, h3]; rfl
    obtain rfl : g0 = false := by rw [← hg]; simp [h1, h2, h3]
    clear hg
    go_enter Tryz.func61, Tryz.ntmps61
    go_wp2_with (first | go_big_skip | (((with_reducible apply wpList_loadOne HO); exact rfl; exact rfl; (repeat (with_reducible (exact At.head _))); exact rfl; infer_instance; exact rfl; (simp only [Act.put, zA, zB, zC]))) | (((with_reducible apply wpList_boxAgg _ HO rfl); exact rfl; exact rfl; exact rfl; clear HO; intro b1 w HO; (simp only [Act.put, zA, zB, zC]))))
    go_ret
    exact ⟨rfl, HO.grown⟩
  have m3 : (err != 60) = true := by rw [bne, h3]; rfl
  cases h4 : (err == 61)
  rotate_left
  · have m4 : (err != 61) = false := by rw [bne, h4]; rfl
    obtain rfl : g0 = false := by rw [← hg]; simp [h1, h2, h3, h4]
    clear hg
    go_enter Tryz.func61, Tryz.ntmps61
    go_wp2_with (first | (((with_reducible apply wpList_loadOne HO); exact rfl; exact rfl; (repeat (with_reducible (exact At.head _))); exact rfl; infer_instance; exact rfl; (simp only [Act.put, zA, zB, zC]))) | (((with_reducible apply wpList_boxAgg _ HO rfl); exact rfl; exact rfl; exact rfl; clear HO; intro b1 w HO; (simp only [Act.put, zA, zB, zC]))))
    go_ret
    exact ⟨rfl, HO.grown⟩
  · have m4 : (err != 61) = true := by rw [bne, h4]; rfl
    obtain rfl : g0 = true := by rw [← hg]; simp [h1, h2, h3, h4]
    clear hg
    go_enter Tryz.func61, Tryz.ntmps61
    go_wp2_with (first | (((with_reducible apply wpList_loadOne HO); exact rfl; exact rfl; (repeat (with_reducible (exact At.head _))); exact rfl; infer_instance; exact rfl; (simp only [Act.put, zA, zB, zC]))) | (((with_reducible apply wpList_boxAgg _ HO rfl); exact rfl; exact rfl; exact rfl; clear HO; intro b1 w HO; (simp only [Act.put, zA, zB, zC]))))
    go_ret
    exact ⟨rfl, HO.grown⟩

def changesH (x : HisS) : Bool := decide (x.k < 3) && (x.err == 0)
set_option maxHeartbeats 8000000 in
set_option maxRecDepth 100000 in
theorem changes_any (x : HisS) (w : World) : Calls Tryz.prog 123 #[.agg (rhC x).toArray] w fun e w' => e = .returned (.bool (changesH x)) ∧ Below w.heap.size w w' := by
  have HO := Own.start w
  obtain ⟨k, a, b, ⟨oid, oref, osku, oq, oa⟩, err, id, amt, ⟨soid, soref, sosku, soq, soa⟩, ⟨d0, d1, d2, d3, d4, d5, dx⟩⟩ := x
  unfold rhC changesH
  simp only
  cases c1 : decide (k < 3)
  · go_enter Tryz.func123, Tryz.ntmps123
    go_wp2_with (first | go_big_skip | (((with_reducible apply wpList_loadOne HO); exact rfl; exact rfl; (repeat (with_reducible (exact At.head _))); exact rfl; infer_instance; exact rfl; (simp only [Act.put, zA, zB, zC]))) | (((with_reducible apply wpList_boxAgg _ HO rfl); exact rfl; exact rfl; exact rfl; clear HO; intro b1 w HO; (simp only [Act.put, zA, zB, zC]))))
    go_ret
    exact ⟨by simp, HO.grown⟩
  · cases c2 : (err == 0)
    · go_enter Tryz.func123, Tryz.ntmps123
      go_wp2_with (first | (((with_reducible apply wpList_loadOne HO); exact rfl; exact rfl; (repeat (with_reducible (exact At.head _))); exact rfl; infer_instance; exact rfl; (simp only [Act.put, zA, zB, zC]))) | (((with_reducible apply wpList_boxAgg _ HO rfl); exact rfl; exact rfl; exact rfl; clear HO; intro b1 w HO; (simp only [Act.put, zA, zB, zC]))))
      go_ret
      exact ⟨by simp, HO.grown⟩
    · go_enter Tryz.func123, Tryz.ntmps123
      go_wp2_with (first | (((with_reducible apply wpList_loadOne HO); exact rfl; exact rfl; (repeat (with_reducible (exact At.head _))); exact rfl; infer_instance; exact rfl; (simp only [Act.put, zA, zB, zC]))) | (((with_reducible apply wpList_boxAgg _ HO rfl); exact rfl; exact rfl; exact rfl; clear HO; intro b1 w HO; (simp only [Act.put, zA, zB, zC]))))
      go_ret
      exact ⟨by simp, HO.grown⟩
end Go.Proofs.YtibabfedpdoofaaGreatDoor
namespace Go.Proofs.YtibabfedpdoofaaGreatDoor
open Go.RowKit Go.Own Go.Maps

theorem sagaL_one' (l : List (OrdS × D6)) : ∀ u ∈ (l.map sagaL).flatten, u.oneCell' = true := by
  intro u hu
  obtain ⟨x, hx, hu⟩ := List.mem_flatten.1 hu
  obtain ⟨p, _, rfl⟩ := List.mem_map.1 hx
  simp only [sagaL, List.mem_cons, List.not_mem_nil, or_false] at hu
  rcases hu with rfl | rfl | rfl | rfl | rfl | rfl | rfl | rfl | rfl | rfl | rfl | rfl <;> rfl

set_option maxHeartbeats 8000000 in
set_option maxRecDepth 100000 in
theorem coCopy_any {W : World} {a : CoA} {S : CoS} {i : InA} {A : InS} (h : CoAt W a S i A) (hf : (∃ p n c, i.v0 = .slice p n c) ∧ (∃ p n c, i.v1 = .slice p n c) ∧ (∃ p n c, i.v2 = .slice p n c) ∧ ∃ x, i.m = .map x) (hlen : S.P.length ≤ 100000) (hl : S.L.length ≤ 60) :
    Calls Tryz.prog 37 #[.pointer (some ⟨a.c, 0, none⟩)] W fun e w' => ∃ a' : CoA, e = .returned (.pointer (some ⟨a'.c, 0, none⟩)) ∧ Own W w' (coPs a' S i A) := by
  have HO := Own.start W
  have N := coNone_any h
  have HC := fun w (hb : Below W.heap.size W w) => bkCopy_any (h.below hb).bk hlen
  have HU := Lib.hid (fun (w : World) (hb : Below W.heap.size W w) => (h.below hb).row)
  have H1 := Lib.hid (sagaL_one' S.L)
  have H2 := Lib.hid (sagaL_len S.L)
  obtain ⟨p, c, hv, -⟩ := h.row.slice
  rw [List.length_map] at hv
  have hlt := old_lt h.box
  have HK := Lib.hid (fun (w' : World) (hb : Below W.heap.size W w') (j : Nat) (u : Value) (hu : (coC a.v a.k A i.v0 i.v1 i.v2 i.m)[j]? = some u) => show w'.cell? ⟨a.c, j, none⟩ = some u by
    rw [hb.cell (p := ⟨a.c, j, none⟩) hlt]; exact old_cell h.box j hu)
  obtain ⟨⟨y0, n0, c0, e0⟩, ⟨y1, n1, c1, e1⟩, ⟨y2, n2, c2, e2⟩, ⟨x, em⟩⟩ := hf
  obtain ⟨v0, v1, v2, m⟩ := i
  simp only at e0 e1 e2 em
  subst e0 e1 e2 em
  obtain ⟨ac, av, ak, au, apm, abm⟩ := a
  simp only at hv
  subst hv
  have HK2 := Lib.hid (fun (w' : World) (hb : Below W.heap.size W w') => show ∀ (j : Nat) (u : Value), [Value.int .i64 A.p0, .int .i64 A.q0, .slice y0 n0 c0, .int .i64 A.p1, .int .i64 A.q1, .slice y1 n1 c1, .int .i64 A.p2, .int .i64 A.q2, .slice y2 n2 c2, .map x][j]? = some u → w'.cell? ((⟨ac, 2, none⟩ : Addr).add j) = some u from fun j u hu => by
    rw [addAt]
    exact HK.out w' hb (2 + j) u (by rw [Nat.add_comm]; exact hu))
  have HK0 := Lib.hid (fun (w' : World) (hb : Below W.heap.size W w') => HK.out w' hb 0 _ rfl)
  have HK1 := Lib.hid (fun (w' : World) (hb : Below W.heap.size W w') => HK.out w' hb 1 _ rfl)
  have hlm : ([] : List (List Value)).length + (S.L.map sagaL).length ≤ 1000000 := by simp; omega
  clear h HK
  replace HO := HO.nil 72 12
  go_enter Tryz.func37, Tryz.ntmps37
  go_upto_region 3 with ((go_at_call 66; go_must ((with_reducible refine (N).mono ?_); rintro e w ⟨rfl, hb⟩; replace HO := HO.call hb; clear hb)))
  refine region_schedO ([]) [(0, true), (1, true), (2, true), (3, true), (5, true), (6, true), (7, true), (8, true), (10, true), (11, true), (12, true), (13, true), (4, false), (9, false), (14, true), (15, false), (16, true)] HO (List.nil_sublist _) (by kernel_rfl) (by kernel_rfl) ?_
  clear HO
  intro w HO
  repeat (first | ((with_reducible apply wpHeld_loadAt1); exact rfl; exact rfl; exact rfl; exact (fun w' hw => HK0.out w' (hw _ List.mem_cons_self)); infer_instance; exact rfl; (simp only [Act.put, zA, zB, zC])) | ((with_reducible apply wpHeld_loadAt1); exact rfl; exact rfl; exact rfl; exact (fun w' hw => HK1.out w' (hw _ List.mem_cons_self)); infer_instance; exact rfl; (simp only [Act.put, zA, zB, zC])) | ((with_reducible apply wpHeld_loadAt); exact rfl; exact rfl; exact rfl; exact (fun w' hw => HK2.out w' (hw _ List.mem_cons_self)); infer_instance; exact rfl; exact rfl; (simp only [Act.put, zA, zB, zC])) | ((with_reducible apply wpHeld_pure); exact rfl; exact rfl; (intro w'; go_simp; try with_reducible rfl); (simp only [Act.put, zA, zB, zC])))
  ((with_reducible apply wpHeld_loud); exact rfl; ((with_reducible apply wpList_appendAll HO); exact rfl; infer_instance; infer_instance; ((simp [Act.eval]; rfl)); exact rfl; exact (HU.out _ HO.grown); exact H2.out; exact H1.out; intro _; (repeat (with_reducible (exact At.head _))); (omega); decide; exact rfl; clear HO; intro v2 w HO hv2; (simp only [Act.put, zA, zB, zC])))
  obtain ⟨p2, n2', c2', rfl⟩ := hv2
  refine wpList_nil ⟨HO.heldO (List.nil_sublist _), ?_⟩
  repeat ((with_reducible apply wpHeld_pure); exact rfl; exact rfl; (intro w'; go_simp; try with_reducible rfl); (simp only [Act.put, zA, zB, zC]))
  ((with_reducible apply wpHeld_loud); exact rfl; go_wp2_with ((go_at_call 97; go_must ((with_reducible refine (HC _ HO.grown).mono ?_); rintro e w ⟨k9, u9, q9, r9, rfl, HO1⟩; replace HO := HO.lift HO1; clear HO1; simp only [List.cons_append, List.nil_append] at HO))))
  refine ⟨HO.heldO (List.nil_sublist _), ?_⟩
  repeat ((with_reducible apply wpHeld_pure); exact rfl; exact rfl; (intro w'; go_simp; try with_reducible rfl); (simp only [Act.put, zA, zB, zC]))
  ((with_reducible apply wpHeld_loud); exact rfl; (((with_reducible apply wpList_boxAgg _ HO rfl); exact rfl; exact rfl; exact rfl; clear HO; intro b4 w HO; (simp only [Act.put, zA, zB, zC]))))
  refine wpList_nil ⟨HO.heldO (List.nil_sublist _), ?_⟩
  repeat ((with_reducible apply wpHeld_pure); exact rfl; exact rfl; (intro w'; go_simp; try with_reducible rfl); (simp only [Act.put, zA, zB, zC]))
  refine wpHeld_end ?_
  go_wp2_with fail
  go_ret
  exact ⟨⟨b4, .slice p2 n2' c2', k9, u9, q9, r9⟩, rfl, HO.perm (by classical exact List.perm_iff_count.2 (fun x9 => by simp only [coPs, coC, List.count_cons, List.count_nil, Nat.zero_add]; ac_rfl))⟩
end Go.Proofs.YtibabfedpdoofaaGreatDoor
namespace Go.Proofs.YtibabfedpdoofaaGreatDoor
open Go.RowKit Go.Own Go.Maps

def keysIn (K : List (Int × Int)) : Prop := ∀ k ∈ K, inI k.1 = true ∧ inI k.2 = true
theorem waitsOf_in (s : D6) : inI (waitsOf s).1 = true := by
  unfold waitsOf
  (repeat' split) <;> decide
theorem keysIn.snoc {K : List (Int × Int)} (h : keysIn K) {o d : Int} (ho : inI o = true) (hd : inI d = true) : keysIn (K ++ [(o, d)]) := fun k hk => by
  rcases List.mem_append.1 hk with hk | hk
  · exact h k hk
  · obtain rfl := List.mem_singleton.1 hk
    exact ⟨ho, hd⟩

set_option maxHeartbeats 8000000 in
set_option maxRecDepth 100000 in
theorem asks_any {W : World} {a : CoA} {S : CoS} {i : InA} {A : InS} (h : CoAt W a S i A) (hid : ∀ x ∈ S.L, inI x.1.id = true) (hl : S.L.length ≤ 60) : Calls Tryz.prog 196 #[.pointer (some ⟨a.c, 0, none⟩)] W fun e w' =>
    ∃ (v : Value) (K : List (Int × Int)), e = .returned v ∧ K.length ≤ 60 ∧ keysIn K ∧ Own W w' [row 29 2 v (K.map keyL)] := by
  have HO := Own.start W
  have N := coNone_any h
  obtain ⟨p, c, hv, hmx⟩ := h.row.slice
  rw [List.length_map] at hv hmx
  have HR := Lib.hid h.row
  have h0 := old_cell h.box 0 rfl
  have hlt := old_lt h.box
  rw [hv] at h0
  generalize ha : a.v = av at *
  subst hv
  clear h ha
  replace hid := Lib.hid hid
  replace HO := HO.nil 29 2
  go_enter Tryz.func196, Tryz.ntmps196
  go_wp2_with (first | ((with_reducible apply wpList_loadOld1 HO); exact rfl; exact rfl; exact hlt; exact h0; infer_instance; exact rfl; (simp only [Act.put, zA, zB, zC])) | (go_at_call 66; go_must ((with_reducible refine (N).mono ?_); rintro e w ⟨rfl, hb⟩; replace HO := HO.call hb; clear hb)))
  go_loopw [3, 15] (fun ov iv wr => ∃ (j : Nat) (K : List (Int × Int)), j ≤ S.L.length ∧ iv = .int .i64 (j : Int) ∧ K.length ≤ j ∧ keysIn K ∧ Own W wr [row 29 2 ov (K.map keyL)]) (fun _ iv _ => S.L.length - (intOf iv).toNat)
  case atStart => exact ⟨0, [], by omega, rfl, by simp, (by intro k hk; cases hk), HO⟩
  case round =>
    clear HO
    obtain ⟨j, K, hj, rfl, hK, hin, HO⟩ := hrel
    obtain ⟨⟨p8, c8, rfl⟩, -⟩ := HO.rowForm (.head _)
    simp only [List.length_map] at HO ⊢
    by_cases hjl : j < S.L.length
    · have hjI : (j : Int) < (S.L.length : Int) := by omega
      obtain ⟨b, rfl, hst⟩ := oldAt HR.out rfl hjl
      have hidj := hid.out _ (List.getElem_mem hjl)
      generalize S.L[j] = y at *
      obtain ⟨o, s⟩ := y
      simp only at hidj
      have WT := fun w => waits_any o s w
      unfold sagaV at WT
      have hwi := waitsOf_in s
      unfold sagaL at hst
      replace hst := Lib.hid hst
      generalize waitsOf s = u at *
      obtain ⟨ud, ub⟩ := u
      simp only at WT hwi
      have hKm : (K.map keyL).length + 1 ≤ 1000000 := by rw [List.length_map]; omega
      have hKn : K.length + 1 ≤ 1000000 := by omega
      have HZ := Lib.hid (hin.snoc hidj hwi)
      replace hin := Lib.hid hin
      clear hidj hwi
      cases ub with
      | false =>
        go_wp2_with (first | (((with_reducible apply wpList_loadAll HO); exact rfl; exact rfl; (repeat (with_reducible (exact At.head _))); infer_instance; exact rfl; exact rfl; (simp only [Act.put, zA, zB, zC]))) | ((with_reducible apply wpList_loadAt HO); exact rfl; exact rfl; exact (fun w' h1 => hst.out w' h1.grown); infer_instance; exact rfl; exact rfl; (simp only [Act.put, zA, zB, zC])) | (((with_reducible apply wpList_allocAgg _ HO rfl); exact rfl; infer_instance; exact rfl; clear HO; intro b1 w HO; (simp only [Act.put, zA, zB, zC]))) | ((with_reducible apply wpList_storeAll HO); exact rfl; exact rfl; exact rfl; (repeat (with_reducible (exact At.head _))); infer_instance; exact rfl; exact rfl; exact rfl; exact rfl; clear HO; intro w HO; (simp only [Act.put])) | (go_at_call 98; go_must ((with_reducible refine (WT _).mono ?_); rintro e w ⟨rfl, hb⟩; replace HO := HO.call hb; clear hb)))
        replace HO := HO.tail
        go_roundw
        case rel => exact ⟨j + 1, K, by omega, by go_num, by omega, hin.out, HO⟩
        case measure => simp [intOf] <;> omega
      | true =>
        go_wp2_with (first | (first | ((with_reducible apply wpList_loadAll HO); exact rfl; exact rfl; (repeat (with_reducible (exact At.head _))); infer_instance; exact rfl; exact rfl; (simp only [Act.put, zA, zB, zC])) | ((with_reducible apply wpList_loadOne HO); exact rfl; exact rfl; (repeat (with_reducible (exact At.head _))); exact rfl; infer_instance; exact rfl; (simp only [Act.put, zA, zB, zC]))) | ((with_reducible apply wpList_loadAt HO); exact rfl; exact rfl; exact (fun w' h1 => hst.out w' h1.grown); infer_instance; exact rfl; exact rfl; (simp only [Act.put, zA, zB, zC])) | (((with_reducible apply wpList_allocAgg _ HO rfl); exact rfl; infer_instance; exact rfl; clear HO; intro b1 w HO; (simp only [Act.put, zA, zB, zC]))) | ((with_reducible apply wpList_storeAll HO); exact rfl; exact rfl; exact rfl; (repeat (with_reducible (exact At.head _))); infer_instance; exact rfl; exact rfl; exact rfl; exact rfl; clear HO; intro w HO; (simp only [Act.put])) | (go_at_call 98; go_must ((with_reducible refine (WT _).mono ?_); rintro e w ⟨rfl, hb⟩; replace HO := HO.call hb; clear hb)) | (((with_reducible apply wpList_lit1 HO); exact rfl; infer_instance; infer_instance; exact rfl; exact rfl; exact (by decide); exact rfl; clear HO; intro bl w HO; (simp only [Act.put, zA, zB, zC]))) | ((with_reducible apply wpList_push1 HO); exact rfl; infer_instance; infer_instance; ((simp [Act.eval]; rfl)); exact rfl; intro _; (repeat (with_reducible (first | exact At.head _ | apply At.tail))); exact rfl; exact rfl; (omega); decide; exact rfl; clear HO; intro v2 w HO hv2; (simp only [Act.put, zA, zB, zC])))
        go_roundw
        case rel => exact ⟨j + 1, K ++ [(o.id, ud)], by omega, by go_num, by simp; omega, HZ.out, by rw [List.map_append]; exact HO.tail⟩
        case measure => simp [intOf] <;> omega
    · obtain rfl : j = S.L.length := by omega
      go_wp2_with fail
      go_ret
      exact ⟨_, K, rfl, by omega, hin, HO⟩

/-- What waits, in memory. -/
def wtPs (t m n : Nat) (f : Lit → Option Value) : List Ent := [box t (.cells #[.map (some m)] 280), mapE Tryz.prog 29 m n f]
set_option maxHeartbeats 4000000 in
theorem wtNew_any (W : World) : Calls Tryz.prog 195 #[] W fun e w' => ∃ t m, e = .returned (.pointer (some ⟨t, 0, none⟩)) ∧ Own W w' (wtPs t m 0 (fun _ => none)) := by
  have HO := Own.start W
  go_enter Tryz.func195, Tryz.ntmps195
  go_wp2_with (first | ((with_reducible apply wpList_makeMap HO (kt := 29) (mt := 278)); exact rfl; exact rfl; clear HO; intro m w HO; (simp only [Act.put, zA, zB, zC])) | (((with_reducible apply wpList_boxAgg _ HO rfl); exact rfl; exact rfl; exact rfl; clear HO; intro b1 w HO; (simp only [Act.put, zA, zB, zC]))))
  go_ret
  exact ⟨b1, m, rfl, HO⟩
theorem waitsEql (w : World) (b : Option Nat) : (binOp .eql 278 (.map b) (.map none)).run Tryz.prog w = .ok (.bool b.isNone) w := run_eql_map_nil_sl w _ _ _ b Tryz.underlying278
set_option maxHeartbeats 4000000 in
set_option maxRecDepth 100000 in
theorem wtNone_any {w : World} {t m : Nat} (h : w.heap[t]? = some (.cells [.map (some m)].toArray 280)) : Calls Tryz.prog 206 #[.pointer (some ⟨t, 0, none⟩)] w fun e w' => e = .returned (.bool false) ∧ Below w.heap.size w w' := by
  have HO := Own.start w
  have h0 := old_cell h 0 rfl
  have hlt := old_lt h
  have hq := fun w => waitsEql w (some m)
  clear h
  go_enter Tryz.func206, Tryz.ntmps206
  go_wp2_with (((with_reducible apply wpList_loadOld1 HO); exact rfl; exact rfl; exact hlt; exact h0; infer_instance; exact rfl; (simp only [Act.put, zA, zB, zC])))
  go_ret
  exact ⟨rfl, HO.grown⟩
set_option maxHeartbeats 4000000 in
theorem after0_any (w : World) : Calls Tryz.prog 207 #[.int .i64 0, .int .i64 0] w fun e w' => e = .returned (.int .i64 0) ∧ Below w.heap.size w w' := by
  have HO := Own.start w
  go_enter Tryz.func207, Tryz.ntmps207
  go_wp2_with (fail)
  go_ret
  exact ⟨rfl, HO.grown⟩
set_option maxHeartbeats 8000000 in
set_option maxRecDepth 100000 in
theorem due_any {W w : World} {M : List Ent} {t m n : Nat} {f : Lit → Option Value} {o d : Int} (HO : Own W w (wtPs t m n f ++ M)) (ho : inI o = true) (hd : inI d = true) (hn : n ≤ 1000) :
    Calls Tryz.prog 197 #[.pointer (some ⟨t, 0, none⟩), .agg #[.int .i64 o, .int .i64 d], .int .i64 0] w fun e w' => e = .returned (.tuple #[]) ∧ ∃ n' f', n' ≤ n + 1 ∧ Own W w' (wtPs t m n' f' ++ M) := by
  have KC := fun w => keyCheck_any o d w
  have A0 := fun w => after0_any w
  have hkey := keyOf_lit (wf_in ho) (wf_in hd)
  have hlt1 : n < maxLen := by unfold maxLen; omega
  unfold wtPs at HO ⊢
  simp only [List.cons_append, List.nil_append] at HO ⊢
  generalize keyLit o d = lk at *
  cases hk : keyOk o d with
  | false =>
    rw [hk] at KC
    clear hkey hlt1 ho hd
    go_enter Tryz.func197, Tryz.ntmps197
    go_wp2_with (first | (((with_reducible apply wpList_loadAll HO); exact rfl; exact rfl; (repeat (with_reducible (exact At.head _))); infer_instance; exact rfl; exact rfl; (simp only [Act.put, zA, zB, zC]))) | (((with_reducible apply wpList_boxAgg _ HO rfl); exact rfl; exact rfl; exact rfl; clear HO; intro b1 w HO; (simp only [Act.put, zA, zB, zC]))) | (go_at_call 206; go_must ((with_reducible refine (wtNone_any (HO.boxAt (by repeat (first | exact List.mem_cons_self | apply List.mem_cons_of_mem)))).mono ?_); rintro e w ⟨rfl, hb⟩; replace HO := HO.call hb; clear hb)) | (go_at_call 156; go_must ((with_reducible refine (KC _).mono ?_); rintro e w ⟨rfl, hb⟩; replace HO := HO.call hb; clear hb)))
    go_end0
    exact ⟨rfl, n, f, by omega, HO.tail⟩
  | true =>
    rw [hk] at KC
    clear ho hd
    go_enter Tryz.func197, Tryz.ntmps197
    go_upto_region 2 with (first | (((with_reducible apply wpList_loadAll HO); exact rfl; exact rfl; (repeat (with_reducible (exact At.head _))); infer_instance; exact rfl; exact rfl; (simp only [Act.put, zA, zB, zC]))) | (((with_reducible apply wpList_boxAgg _ HO rfl); exact rfl; exact rfl; exact rfl; clear HO; intro b1 w HO; (simp only [Act.put, zA, zB, zC]))) | (go_at_call 206; go_must ((with_reducible refine (wtNone_any (HO.boxAt (by repeat (first | exact List.mem_cons_self | apply List.mem_cons_of_mem)))).mono ?_); rintro e w ⟨rfl, hb⟩; replace HO := HO.call hb; clear hb)) | (go_at_call 156; go_must ((with_reducible refine (KC _).mono ?_); rintro e w ⟨rfl, hb⟩; replace HO := HO.call hb; clear hb)))
    refine region_sched2 ([box b1 (.cells #[.int .i64 o, .int .i64 d] 29), box t (.cells #[.map (some m)] 280)]) [(0, true), (1, true), (2, true), (3, true), (4, true), (5, true), (6, true), (7, false), (8, true), (9, false)] HO (by with_reducible (repeat (first | exact List.nil_sublist _ | apply List.Sublist.cons_cons))) (by kernel_rfl) (by kernel_rfl) ?_
    clear HO
    intro w HO
    repeat (first | ((with_reducible apply wpSched_loadOne); exact rfl; exact rfl; exact rfl; (repeat (with_reducible (first | exact At.head _ | apply At.tail))); exact rfl; infer_instance; exact rfl; (simp only [Act.put, zA, zB, zC])) | ((with_reducible apply wpSched_loadAll); exact rfl; exact rfl; exact rfl; (repeat (with_reducible (exact At.head _))); infer_instance; exact rfl; exact rfl; (simp only [Act.put, zA, zB, zC])) | ((with_reducible apply wpSched_pure); exact rfl; exact rfl; (intro w'; go_simp; try with_reducible rfl); (simp only [Act.put, zA, zB, zC])))
    ((with_reducible apply wpSched_loud); exact rfl; go_wp2_with ((go_at_call 207; go_must ((with_reducible refine (A0 _).mono ?_); rintro e w ⟨rfl, hb⟩; replace HO := HO.call hb; clear hb))))
    refine thenQ_keep (HO.held (by with_reducible (repeat (first | exact List.nil_sublist _ | apply List.Sublist.cons_cons)))) ?_
    repeat (((with_reducible apply wpSched_pure); exact rfl; exact rfl; (intro w'; go_simp; try with_reducible rfl); (simp only [Act.put, zA, zB, zC])))
    ((with_reducible apply wpSched_loud); exact rfl; ((with_reducible apply wpList_mapPut HO (kt := 29) (et := 282)); exact rfl; exact rfl; exact rfl; ((simp [Act.eval]; rfl)); (repeat (with_reducible (first | exact At.head _ | apply At.tail))); exact keyKeyed; exact Tryz.underlying278; exact hlt1; exact hkey; exact rfl; clear HO; intro w HO; (simp only [Act.put])))
    refine wpList_nil (thenQ_free (by kernel_rfl) ?_)
    refine wpSched_end ?_
    go_end0
    exact ⟨rfl, _, _, Nat.le_refl _, HO.tail⟩
end Go.Proofs.YtibabfedpdoofaaGreatDoor
namespace Go.Proofs.YtibabfedpdoofaaGreatDoor
open Go.RowKit Go.Own

def zeroE (k : Int) : EntS := ⟨k, 0, [], [], 0, 0, 0, 0, 0, 0, 0, []⟩
/-- An entry with what its kind uses alone. -/
def plainE (x : EntS) : EntS := if x.k = 1 then { zeroE x.k with id := x.id, ref := x.ref, sku := x.sku, qty := x.qty, amt := x.amt } else if x.k = 2 then { zeroE x.k with o := x.o } else
  if x.k = 3 then { zeroE x.k with o := x.o, d := x.d, c := x.c } else if x.k = 4 then { zeroE x.k with p := x.p, q := x.q, rs := x.rs } else zeroE x.k
def plainV (x : EntS) (v : Value) : Value := if x.k = 4 then v else .slice none 0 0
theorem plainE_k (x : EntS) : (plainE x).k = x.k := by unfold plainE; (repeat' split) <;> rfl
theorem plainV_rows {w : World} {v : Value} {x : EntS} (h : IsRows w v x.rs) : IsRows w (plainV x v) (plainE x).rs := by
  unfold plainE plainV
  by_cases h4 : x.k = 4
  · simpa [h4] using h
  · rw [if_neg h4, if_neg h4]
    have e : ∀ y : EntS, y.rs = [] → IsRows w (.slice none 0 0) y.rs := fun y hy => by rw [hy]; exact .none _ _ (fun _ => rfl)
    (repeat' split) <;> exact e _ rfl
set_option maxHeartbeats 4000000 in
set_option maxRecDepth 100000 in
theorem plain_any {W : World} {v : Value} (x : EntS) (h : IsRows W v x.rs) :
    Calls Tryz.prog 184 #[.agg #[.int .i64 (x).k, .int .i64 (x).id, .string ⟨(x).ref.toArray⟩, .string ⟨(x).sku.toArray⟩, .int .i64 (x).qty, .int .i64 (x).amt, .int .i64 (x).o, .int .i64 (x).d, .int .i64 (x).c, .int .i64 (x).p, .int .i64 (x).q, v]] W fun e w' => e = .returned (.agg #[.int .i64 ((plainE x)).k, .int .i64 ((plainE x)).id, .string ⟨((plainE x)).ref.toArray⟩, .string ⟨((plainE x)).sku.toArray⟩, .int .i64 ((plainE x)).qty, .int .i64 ((plainE x)).amt, .int .i64 ((plainE x)).o, .int .i64 ((plainE x)).d, .int .i64 ((plainE x)).c, .int .i64 ((plainE x)).p, .int .i64 ((plainE x)).q, (plainV x v)]) ∧ Below W.heap.size W w' := by
  obtain ⟨k, id, ref, sku, qty, amt, o, d, c, p, q, rs⟩ := x
  simp only at h
  obtain ⟨sp, sc, rfl, -⟩ := h.slice
  clear h
  have HO := Own.start W
  rcases five k with rfl | rfl | rfl | rfl | ⟨k1, k2, k3, k4⟩
  · go_enter Tryz.func184, Tryz.ntmps184
    go_wp2_with (first | (first | ((with_reducible apply wpList_loadAll HO); exact rfl; exact rfl; (repeat (with_reducible (first | exact At.head _ | apply At.tail))); infer_instance; exact rfl; exact rfl; (simp only [Act.put, zA, zB, zC])) | ((with_reducible apply wpList_loadOne HO); exact rfl; exact rfl; (repeat (with_reducible (first | exact At.head _ | apply At.tail))); exact rfl; infer_instance; exact rfl; (simp only [Act.put, zA, zB, zC])) | ((with_reducible apply wpList_storeAll HO); exact rfl; exact rfl; exact rfl; (repeat (with_reducible (first | exact At.head _ | apply At.tail))); infer_instance; exact rfl; exact rfl; exact rfl; exact rfl; clear HO; intro w HO; (simp only [Act.put])) | (first | ((with_reducible apply wpList_boxAgg _ HO rfl); exact rfl; exact rfl; exact rfl; clear HO; intro b0 w HO; (simp only [Act.put, zA, zB, zC])) | ((with_reducible apply wpList_allocAgg _ HO rfl); exact rfl; infer_instance; exact rfl; clear HO; intro b0 w HO; (simp only [Act.put, zA, zB, zC])))) | ((with_reducible apply wpList_loadPart HO); exact rfl; exact rfl; (repeat (with_reducible (first | exact At.head _ | apply At.tail))); infer_instance; exact (Nat.le_of_ble_eq_true rfl); (simp only [List.drop_succ_cons, List.drop_zero, List.take_succ_cons, List.take_zero]; rfl); exact rfl; (simp only [Act.put, zA, zB, zC])) | ((with_reducible apply wpList_storePart HO); exact rfl; exact rfl; ((simp [Act.eval]; rfl)); exact rfl; (repeat (with_reducible (exact At.head _))); infer_instance; exact rfl; exact (by simp); (simp only [putL, List.drop_succ_cons, List.drop_zero, List.take_succ_cons, List.take_zero, List.length_cons, List.length_nil, List.cons_append, List.nil_append, Nat.reduceAdd]; rfl); exact rfl; exact rfl; clear HO; intro w HO; (simp only [Act.put])))
    refine bodyPost_ret (results_one HO rfl rfl (by (repeat (with_reducible (first | exact At.head _ | apply At.tail)))) inferInstance rfl) rfl ?_
    exact ⟨rfl, HO.grown⟩
  · go_enter Tryz.func184, Tryz.ntmps184
    go_wp2_with (first | (first | ((with_reducible apply wpList_loadAll HO); exact rfl; exact rfl; (repeat (with_reducible (first | exact At.head _ | apply At.tail))); infer_instance; exact rfl; exact rfl; (simp only [Act.put, zA, zB, zC])) | ((with_reducible apply wpList_loadOne HO); exact rfl; exact rfl; (repeat (with_reducible (first | exact At.head _ | apply At.tail))); exact rfl; infer_instance; exact rfl; (simp only [Act.put, zA, zB, zC])) | ((with_reducible apply wpList_storeAll HO); exact rfl; exact rfl; exact rfl; (repeat (with_reducible (first | exact At.head _ | apply At.tail))); infer_instance; exact rfl; exact rfl; exact rfl; exact rfl; clear HO; intro w HO; (simp only [Act.put])) | (first | ((with_reducible apply wpList_boxAgg _ HO rfl); exact rfl; exact rfl; exact rfl; clear HO; intro b0 w HO; (simp only [Act.put, zA, zB, zC])) | ((with_reducible apply wpList_allocAgg _ HO rfl); exact rfl; infer_instance; exact rfl; clear HO; intro b0 w HO; (simp only [Act.put, zA, zB, zC])))) | ((with_reducible apply wpList_storePart HO); exact rfl; exact rfl; ((simp [Act.eval]; rfl)); exact rfl; (repeat (with_reducible (exact At.head _))); infer_instance; exact rfl; exact (by simp); (simp only [putL, List.drop_succ_cons, List.drop_zero, List.take_succ_cons, List.take_zero, List.length_cons, List.length_nil, List.cons_append, List.nil_append, Nat.reduceAdd]; rfl); exact rfl; exact rfl; clear HO; intro w HO; (simp only [Act.put])))
    refine bodyPost_ret (results_one HO rfl rfl (by (repeat (with_reducible (first | exact At.head _ | apply At.tail)))) inferInstance rfl) rfl ?_
    exact ⟨rfl, HO.grown⟩
  · go_enter Tryz.func184, Tryz.ntmps184
    go_wp2_with (first | ((have _h : Own W _ (box _ _ :: box _ _ :: _) := HO); clear _h; ((with_reducible apply wpList_allocAgg _ HO rfl); exact rfl; infer_instance; exact rfl; clear HO; intro b3 w HO; (simp only [Act.put, zA, zB, zC]))) | ((with_reducible apply wpList_allocAgg _ HO rfl); exact rfl; infer_instance; exact rfl; clear HO; intro b2 w HO; (simp only [Act.put, zA, zB, zC])) | ((with_reducible apply wpList_boxAgg _ HO rfl); exact rfl; exact rfl; exact rfl; clear HO; intro b1 w HO; (simp only [Act.put, zA, zB, zC])) | (((with_reducible apply wpList_loadOne HO); exact rfl; exact rfl; (repeat (with_reducible (first | exact At.head _ | apply At.tail))); exact rfl; infer_instance; exact rfl; (simp only [Act.put, zA, zB, zC]))) | ((with_reducible apply wpList_storeAll HO); exact rfl; exact rfl; exact rfl; (repeat (with_reducible (exact At.head _))); infer_instance; exact rfl; exact rfl; exact rfl; exact rfl; clear HO; intro w HO; (simp only [Act.put])))
    refine region_sched2 ([box b1 (.cells #[.int .i64 3, .int .i64 id, .string ⟨ref.toArray⟩, .string ⟨sku.toArray⟩, .int .i64 qty, .int .i64 amt, .int .i64 o, .int .i64 d, .int .i64 c, .int .i64 p, .int .i64 q, .slice sp rs.length sc] 34)]) [(0, true), (1, true), (2, true), (3, true), (4, true), (5, false), (6, true), (7, false)] HO (by with_reducible (repeat (first | exact List.nil_sublist _ | apply List.Sublist.cons_cons | apply List.Sublist.cons))) (by kernel_rfl) (by kernel_rfl) ?_
    clear HO
    intro w HO
    repeat (first | ((with_reducible apply wpSched_loadOne); exact rfl; exact rfl; exact rfl; (repeat (with_reducible (exact At.head _))); exact rfl; infer_instance; exact rfl; (simp only [Act.put, zA, zB, zC])) | ((with_reducible apply wpSched_loadPart); exact rfl; exact rfl; (exact rfl); (repeat (with_reducible (exact At.head _))); infer_instance; exact (Nat.le_of_ble_eq_true rfl); (simp only [List.drop_succ_cons, List.drop_zero, List.take_succ_cons, List.take_zero]; rfl); exact rfl; (simp only [Act.put, zA, zB, zC])) | ((with_reducible apply wpSched_pure); exact rfl; exact rfl; (intro w'; go_simp; try with_reducible rfl); (simp only [Act.put, zA, zB, zC])))
    ((with_reducible apply wpSched_loud); exact rfl; ((with_reducible apply wpList_storePart HO); exact rfl; exact rfl; ((simp [Act.eval]; rfl)); exact rfl; (repeat (with_reducible (exact At.head _))); infer_instance; exact rfl; exact (by simp); (simp only [putL, List.drop_succ_cons, List.drop_zero, List.take_succ_cons, List.take_zero, List.length_cons, List.length_nil, List.cons_append, List.nil_append, Nat.reduceAdd]; rfl); exact rfl; exact rfl; clear HO; intro w HO; (simp only [Act.put])))
    refine wpList_nil (thenQ_keep (HO.held (by with_reducible (repeat (first | exact List.nil_sublist _ | apply List.Sublist.cons_cons | apply List.Sublist.cons)))) ?_)
    ((with_reducible apply wpSched_pure); exact rfl; exact rfl; (intro w'; go_simp; try with_reducible rfl); (simp only [Act.put, zA, zB, zC]))
    ((with_reducible apply wpSched_loud); exact rfl; ((with_reducible apply wpList_storeOne HO); exact rfl; exact rfl; ((simp [Act.eval]; rfl)); exact rfl; (repeat (with_reducible (exact At.head _))); infer_instance; exact (by simp); (simp only [List.set_cons_succ, List.set_cons_zero]; rfl); exact rfl; clear HO; intro w HO; (simp only [Act.put])))
    refine wpList_nil (thenQ_keep (HO.held (by with_reducible (repeat (first | exact List.nil_sublist _ | apply List.Sublist.cons_cons | apply List.Sublist.cons)))) ?_)
    refine wpSched_end ?_
    go_wp2_with ((first | ((with_reducible apply wpList_loadAll HO); exact rfl; exact rfl; (repeat (with_reducible (exact At.head _))); infer_instance; exact rfl; exact rfl; (simp only [Act.put, zA, zB, zC])) | ((with_reducible apply wpList_storeAll HO); exact rfl; exact rfl; exact rfl; (repeat (with_reducible (first | exact At.head _ | apply At.tail))); infer_instance; exact rfl; exact rfl; exact rfl; exact rfl; clear HO; intro w HO; (simp only [Act.put]))))
    refine bodyPost_ret (results_one HO rfl rfl (by (repeat (with_reducible (first | exact At.head _ | apply At.tail)))) inferInstance rfl) rfl ?_
    exact ⟨rfl, HO.grown⟩
  · go_enter Tryz.func184, Tryz.ntmps184
    go_wp2_with (first | (first | ((with_reducible apply wpList_loadAll HO); exact rfl; exact rfl; (repeat (with_reducible (first | exact At.head _ | apply At.tail))); infer_instance; exact rfl; exact rfl; (simp only [Act.put, zA, zB, zC])) | ((with_reducible apply wpList_loadOne HO); exact rfl; exact rfl; (repeat (with_reducible (first | exact At.head _ | apply At.tail))); exact rfl; infer_instance; exact rfl; (simp only [Act.put, zA, zB, zC])) | ((with_reducible apply wpList_storeAll HO); exact rfl; exact rfl; exact rfl; (repeat (with_reducible (first | exact At.head _ | apply At.tail))); infer_instance; exact rfl; exact rfl; exact rfl; exact rfl; clear HO; intro w HO; (simp only [Act.put])) | (first | ((with_reducible apply wpList_boxAgg _ HO rfl); exact rfl; exact rfl; exact rfl; clear HO; intro b0 w HO; (simp only [Act.put, zA, zB, zC])) | ((with_reducible apply wpList_allocAgg _ HO rfl); exact rfl; infer_instance; exact rfl; clear HO; intro b0 w HO; (simp only [Act.put, zA, zB, zC])))) | ((with_reducible apply wpList_loadPart HO); exact rfl; exact rfl; (repeat (with_reducible (first | exact At.head _ | apply At.tail))); infer_instance; exact (Nat.le_of_ble_eq_true rfl); (simp only [List.drop_succ_cons, List.drop_zero, List.take_succ_cons, List.take_zero]; rfl); exact rfl; (simp only [Act.put, zA, zB, zC])) | ((with_reducible apply wpList_storePart HO); exact rfl; exact rfl; ((simp [Act.eval]; rfl)); exact rfl; (repeat (with_reducible (exact At.head _))); infer_instance; exact rfl; exact (by simp); (simp only [putL, List.drop_succ_cons, List.drop_zero, List.take_succ_cons, List.take_zero, List.length_cons, List.length_nil, List.cons_append, List.nil_append, List.append_nil, Nat.reduceAdd]; rfl); exact rfl; exact rfl; clear HO; intro w HO; (simp only [Act.put])))
    refine bodyPost_ret (results_one HO rfl rfl (by (repeat (with_reducible (first | exact At.head _ | apply At.tail)))) inferInstance rfl) rfl ?_
    exact ⟨rfl, HO.grown⟩
  · have HQ := Lib.hid (show plainE ⟨k, id, ref, sku, qty, amt, o, d, c, p, q, rs⟩ = zeroE k by simp [plainE, k1, k2, k3, k4])
    have HQ2 := Lib.hid (show plainV ⟨k, id, ref, sku, qty, amt, o, d, c, p, q, rs⟩ (.slice sp rs.length sc) = .slice none 0 0 by simp [plainV, k4])
    have e1 : (k == 1) = false := by simpa using k1
    have e2 : (k == 2) = false := by simpa using k2
    have e3 : (k == 3) = false := by simpa using k3
    have e4 : (k == 4) = false := by simpa using k4
    clear k1 k2 k3 k4
    go_enter Tryz.func184, Tryz.ntmps184
    go_wp2_with ((first | ((with_reducible apply wpList_loadAll HO); exact rfl; exact rfl; (repeat (with_reducible (first | exact At.head _ | apply At.tail))); infer_instance; exact rfl; exact rfl; (simp only [Act.put, zA, zB, zC])) | ((with_reducible apply wpList_loadOne HO); exact rfl; exact rfl; (repeat (with_reducible (first | exact At.head _ | apply At.tail))); exact rfl; infer_instance; exact rfl; (simp only [Act.put, zA, zB, zC])) | ((with_reducible apply wpList_storeAll HO); exact rfl; exact rfl; exact rfl; (repeat (with_reducible (first | exact At.head _ | apply At.tail))); infer_instance; exact rfl; exact rfl; exact rfl; exact rfl; clear HO; intro w HO; (simp only [Act.put])) | (first | ((with_reducible apply wpList_boxAgg _ HO rfl); exact rfl; exact rfl; exact rfl; clear HO; intro b0 w HO; (simp only [Act.put, zA, zB, zC])) | ((with_reducible apply wpList_allocAgg _ HO rfl); exact rfl; infer_instance; exact rfl; clear HO; intro b0 w HO; (simp only [Act.put, zA, zB, zC])))))
    refine bodyPost_ret (results_one HO rfl rfl (by (repeat (with_reducible (first | exact At.head _ | apply At.tail)))) inferInstance rfl) rfl ?_
    exact ⟨by rw [HQ.out, HQ2.out]; rfl, HO.grown⟩

def ordEq (a b : EntS) : Bool := decide (a.id = b.id) && decide (a.ref = b.ref) && decide (a.sku = b.sku) && decide (a.qty = b.qty) && decide (a.amt = b.amt)
theorem run_ord_eql (id : Int) (ref sku : List UInt8) (qty amt id' : Int) (ref' sku' : List UInt8) (qty' amt' : Int) (w : World) :
    (binOp .eql 27 (.agg #[.int .i64 id, .string ⟨ref.toArray⟩, .string ⟨sku.toArray⟩, .int .i64 qty, .int .i64 amt]) (.agg #[.int .i64 id', .string ⟨ref'.toArray⟩, .string ⟨sku'.toArray⟩, .int .i64 qty', .int .i64 amt'])).run Tryz.prog w =
      .ok (.bool (decide (id = id') && decide (ref = ref') && decide (sku = sku') && decide (qty = qty') && decide (amt = amt'))) w := by
  go_simp
  (repeat' split) <;> simp_all
/-- What both texts tell. -/
def sameE (a b : EntS) : Bool := decide (a.k = b.k) && ordEq (plainE a) (plainE b) && (decide ((plainE a).o = (plainE b).o) && decide ((plainE a).d = (plainE b).d)) && decide ((plainE a).c = (plainE b).c) &&
  sameStmt (plainE a).p (plainE a).q (plainE a).rs (plainE b).p (plainE b).q (plainE b).rs
end Go.Proofs.YtibabfedpdoofaaGreatDoor

/-
  The document's core: a reply, a statement, any entry, by walking its text; conditions: the core is one that entries come to, the rows lie in memory, int64 numbers.
  The document's aging, and its core's balances, by walking its text; conditions: the core is one that entries come to, int64 numbers.
  The document's desk: what is left of an order's suspense, what is open, by walking its text; conditions: the core is one that entries come to. (Printed by wip/mkdkr.py.)
  A new desk, its items, what is pending, an item proposed, and refused, by walking the program's text; conditions: the core is one that entries come to.
  Both desks are alike, by walking the law's text; conditions: both have the same items and postings.
-/
import Derived.Test.YtibabfedpdoofaaGreatDoorRa1
import Derived.Test.YtibabfedpdoofaaGreatDoorRa5
import Derived.Test.YtibabfedpdoofaaGreatDoorRa8
import Derived.Test.YtibabfedpdoofaaGreatDoorRa10
namespace Go.Proofs.YtibabfedpdoofaaGreatDoor
open Go.RowKit Go.Own Go.Maps

set_option maxHeartbeats 16000000 in
set_option maxRecDepth 100000 in
theorem rcApp3_any {W w : World} {M G : List Ent} {x : RcA} {S : CoS} {A : InS} {v9 : Value} (y : EntS) (HO : Own W w (rcB x A :: M)) (hG : RcIn W G x S A) (hm : ∀ e ∈ G, e ∈ M) (hy : EntF W G y v9) (hok : CoOk S) (hids : idsOk S.L) (hlen : S.P.length ≤ 99000) (hk : y.k = 3) :
    Calls Tryz.prog 28 #[.pointer (some ⟨x.r, 0, none⟩), .agg #[.int .i64 (y).k, .int .i64 (y).id, .string ⟨(y).ref.toArray⟩, .string ⟨(y).sku.toArray⟩, .int .i64 (y).qty, .int .i64 (y).amt, .int .i64 (y).o, .int .i64 (y).d, .int .i64 (y).c, .int .i64 (y).p, .int .i64 (y).q, v9]] w fun e w' => e = .returned (.int .i64 (replyE S.L y.o y.d y.c)) ∧ ∃ (x' : RcA) (N : List Ent), x'.r = x.r ∧ Own W w' (rcB x' A :: (N ++ M)) ∧ RcIn W (N ++ G) x' (rawReplyS S y.o y.d y.c) A := by
  have hu := (hy.rows w HO.grown (fun e he => HO.has _ (.tail _ (hm e he)))).slice
  obtain ⟨vp, vc, rfl, -⟩ := hu
  have hid := hy.o
  obtain ⟨yk, yid, yref, ysku, yq, ya, id, yd, yc, yp, yqq, yrs⟩ := y
  simp only at hid hk
  subst hk
  change Calls Tryz.prog 28 _ w fun e w' => e = .returned (.int .i64 (replyE S.L id yd yc)) ∧ ∃ (x' : RcA) (N : List Ent), x'.r = x.r ∧ Own W w' (rcB x' A :: (N ++ M)) ∧ RcIn W (N ++ G) x' (rawReplyS S id yd yc) A
  have RP := Lib.hid (fun (w : World) (a : Ent) (h : Own W w (a :: rcB x A :: M)) => rcReply_any (M := a :: M) (G := G) id yd yc (h.perm (List.Perm.swap _ _ _)) hG (fun e he => .tail _ (hm e he)) hid hok hids hlen)
  clear hG hy hok hids hlen hid hm
  go_enter Tryz.func28, Tryz.ntmps28
  go_wp2_with (first | (((with_reducible apply wpList_loadOne HO); exact rfl; exact rfl; (repeat (with_reducible (exact At.head _))); exact rfl; infer_instance; exact rfl; (simp only [Act.put, zA, zB, zC]))) | ((with_reducible apply wpList_loadPart HO); exact rfl; exact rfl; (repeat (with_reducible (exact At.head _))); infer_instance; exact (Nat.le_of_ble_eq_true rfl); (simp only [List.drop_succ_cons, List.drop_zero, List.take_succ_cons, List.take_zero]; rfl); exact rfl; (simp only [Act.put, zA, zB, zC])) | (((with_reducible apply wpList_boxAgg _ HO rfl); exact rfl; exact rfl; exact rfl; clear HO; intro b1 w HO; (simp only [Act.put, zA, zB, zC]))) | (go_at_call 88; go_must ((have h9 := RP.out _ _ HO); (with_reducible refine h9.mono ?_); clear h9 HO; rintro e w ⟨rfl, x', N, hr, HO, hG⟩)))
  go_ret
  refine ⟨rfl, x', N ++ [_], hr, by rw [List.append_assoc]; exact HO, hG.mono (fun e he => ?_)⟩
  rcases List.mem_append.1 he with he | he
  · exact List.mem_append_left _ (List.mem_append_left _ he)
  · exact List.mem_append_right _ he

set_option maxHeartbeats 16000000 in
set_option maxRecDepth 100000 in
theorem rcApp5_any {W w : World} {M G : List Ent} {x : RcA} {S : CoS} {A : InS} {v9 : Value} (y : EntS) (HO : Own W w (rcB x A :: M)) (hG : RcIn W G x S A) (hm : ∀ e ∈ G, e ∈ M) (hy : EntF W G y v9) (h1 : y.k ≠ 1) (h2 : y.k ≠ 2) (h3 : y.k ≠ 3) (h4 : y.k ≠ 4) :
    Calls Tryz.prog 28 #[.pointer (some ⟨x.r, 0, none⟩), .agg #[.int .i64 (y).k, .int .i64 (y).id, .string ⟨(y).ref.toArray⟩, .string ⟨(y).sku.toArray⟩, .int .i64 (y).qty, .int .i64 (y).amt, .int .i64 (y).o, .int .i64 (y).d, .int .i64 (y).c, .int .i64 (y).p, .int .i64 (y).q, v9]] w fun e w' => e = .returned (.int .i64 2) ∧ ∃ (x' : RcA) (N : List Ent), x'.r = x.r ∧ Own W w' (rcB x' A :: (N ++ M)) ∧ RcIn W (N ++ G) x' S A := by
  have hu := (hy.rows w HO.grown (fun e he => HO.has _ (.tail _ (hm e he)))).slice
  obtain ⟨vp, vc, rfl, -⟩ := hu
  have HG := Lib.hid hG
  clear hG hy hm
  go_enter Tryz.func28, Tryz.ntmps28
  go_wp2_with (first | (((with_reducible apply wpList_loadOne HO); exact rfl; exact rfl; (repeat (with_reducible (exact At.head _))); exact rfl; infer_instance; exact rfl; (simp only [Act.put, zA, zB, zC]))) | (((with_reducible apply wpList_boxAgg _ HO rfl); exact rfl; exact rfl; exact rfl; clear HO; intro b1 w HO; (simp only [Act.put, zA, zB, zC]))))
  go_ret
  first | exact ⟨rfl, x, rfl, [], HO.tail, HG.out⟩ | exact ⟨rfl, x, [], rfl, HO.tail, HG.out⟩

theorem rc_put {w : World} {v0 v1 v2 v : Value} {A : InS} {p q : Int} {rs : List RowS} (h0 : IsRows w v0 A.r0) (h1 : IsRows w v1 A.r1) (h2 : IsRows w v2 A.r2) (h : IsRows w v rs) (hp : p = 0 ∨ p = 1 ∨ p = 2) :
    IsRows w (if p = 0 then v else v0) (A.put p q rs).r0 ∧ IsRows w (if p = 1 then v else v1) (A.put p q rs).r1 ∧ IsRows w (if p = 2 then v else v2) (A.put p q rs).r2 := by
  rcases hp with rfl | rfl | rfl
  · exact ⟨h, h1, h2⟩
  · exact ⟨h0, h, h2⟩
  · exact ⟨h0, h1, h⟩

set_option maxHeartbeats 16000000 in
set_option maxRecDepth 100000 in
theorem rcApp4no_any {W w : World} {M G : List Ent} {x : RcA} {S : CoS} {A : InS} {v9 : Value} (y : EntS) (HO : Own W w (rcB x A :: M)) (hG : RcIn W G x S A) (hm : ∀ e ∈ G, e ∈ M) (hy : EntF W G y v9) (hk : y.k = 4) (ha : accE A y.p y.q y.rs ≠ 0) :
    Calls Tryz.prog 28 #[.pointer (some ⟨x.r, 0, none⟩), .agg #[.int .i64 (y).k, .int .i64 (y).id, .string ⟨(y).ref.toArray⟩, .string ⟨(y).sku.toArray⟩, .int .i64 (y).qty, .int .i64 (y).amt, .int .i64 (y).o, .int .i64 (y).d, .int .i64 (y).c, .int .i64 (y).p, .int .i64 (y).q, v9]] w fun e w' => e = .returned (.int .i64 (accE A y.p y.q y.rs)) ∧ ∃ (x' : RcA) (N : List Ent), x'.r = x.r ∧ Own W w' (rcB x' A :: (N ++ M)) ∧ RcIn W (N ++ G) x' S A := by
  have hu := (hy.rows w HO.grown (fun e he => HO.has _ (.tail _ (hm e he)))).slice
  obtain ⟨vp, vc, rfl, -⟩ := hu
  obtain ⟨r, v, u, v0, v1, v2⟩ := x
  obtain ⟨yk, yid, yref, ysku, yq, ya, yo, yd, yc, p, q, rs⟩ := y
  have hrs := hy.rows
  simp only at hk ha hrs
  subst hk
  change Calls Tryz.prog 28 _ w fun e w' => e = .returned (.int .i64 (accE A p q rs)) ∧ ∃ (x' : RcA) (N : List Ent), x'.r = r ∧ Own W w' (rcB x' A :: (N ++ M)) ∧ RcIn W (N ++ G) x' S A
  have AC := Lib.hid (fun (w : World) (L : List Ent) (h : Own W w L) (hM : ∀ e ∈ M, e ∈ L) => show Calls Tryz.prog 89 #[.agg #[.int .i64 (A).p0, .int .i64 (A).q0, v0, .int .i64 (A).p1, .int .i64 (A).q1, v1, .int .i64 (A).p2, .int .i64 (A).q2, v2], .agg #[.int .i64 p, .int .i64 q, .slice vp rs.length vc]] w fun e w' => e = .returned (.tuple #[.agg #[.int .i64 0, .int .i64 0, .slice none 0 0, .int .i64 0, .int .i64 0, .slice none 0 0, .int .i64 0, .int .i64 0, .slice none 0 0], .int .i64 (accE A p q rs)]) ∧ Below w.heap.size w w' from by
    have h1 := hG.at h (fun e he => hM e (hm e he))
    refine (refAccept_any A p q rs h1.i0 h1.i1 h1.i2 (hrs w h.grown (fun e he => h.has _ (hM e (hm e he))))).mono ?_
    intro e w' he
    unfold RefAccPost at he
    rw [if_neg ha] at he
    exact ⟨he.2, he.1⟩)
  have HG := Lib.hid hG
  unfold rcB rcC at HO
  simp only at HO
  have hex : (accE A p q rs != 0) = true := by simpa using ha
  generalize accE A p q rs = ex at *
  clear hG hy hm hrs ha
  go_enter Tryz.func28, Tryz.ntmps28
  go_upto_region 24 with (first | (((with_reducible apply wpList_loadOne HO); exact rfl; exact rfl; (repeat (with_reducible (exact At.head _))); exact rfl; infer_instance; exact rfl; (simp only [Act.put, zA, zB, zC]))) | (((with_reducible apply wpList_boxAgg _ HO rfl); exact rfl; exact rfl; exact rfl; clear HO; intro b1 w HO; (simp only [Act.put, zA, zB, zC]))))
  go_cut [8, 9] (fun x e wx => ∃ b8, x = .pointer (some ⟨b8, 0, none⟩) ∧ e = .int .i64 ex ∧ Own W wx (box b8 (.cells #[.int .i64 0, .int .i64 0, .slice none 0 0, .int .i64 0, .int .i64 0, .slice none 0 0, .int .i64 0, .int .i64 0, .slice none 0 0] 150) :: box b1 (.cells #[.int .i64 4, .int .i64 yid, .string ⟨yref.toArray⟩, .string ⟨ysku.toArray⟩, .int .i64 yq, .int .i64 ya, .int .i64 yo, .int .i64 yd, .int .i64 yc, .int .i64 p, .int .i64 q, .slice vp rs.length vc] 34) :: box r (.cells #[v, u, .int .i64 A.p0, .int .i64 A.q0, v0, .int .i64 A.p1, .int .i64 A.q1, v1, .int .i64 A.p2, .int .i64 A.q2, v2] 152) :: M))
  case first =>
        refine region_treeO (box b1 (.cells #[.int .i64 4, .int .i64 yid, .string ⟨yref.toArray⟩, .string ⟨ysku.toArray⟩, .int .i64 yq, .int .i64 ya, .int .i64 yo, .int .i64 yd, .int .i64 yc, .int .i64 p, .int .i64 q, .slice vp rs.length vc] 34) :: box r (.cells #[v, u, .int .i64 A.p0, .int .i64 A.q0, v0, .int .i64 A.p1, .int .i64 A.q1, v1, .int .i64 A.p2, .int .i64 A.q2, v2] 152) :: M) [(0, true), (1, true), (2, true), (3, true), (4, true), (5, true), (7, true), (8, true), (9, true), (12, true)] (.fork [(0, true), (1, true), (2, true), (3, true), (4, true), (5, true)] 6 10 (.fin [(7, true), (8, true), (9, true), (10, false), (11, false), (12, true)]) (.fin [(6, false), (7, true), (8, true), (9, true), (11, false), (12, true)])) HO (by with_reducible (repeat (exact List.Sublist.refl _))) (by kernel_rfl) (by kernel_rfl) ?_
        clear HO
        intro w HO
        refine wpS_fork ?_
        repeat (first | ((with_reducible apply wpSched_loadPart); exact rfl; exact rfl; (exact rfl); (repeat (with_reducible (first | exact At.head _ | apply At.tail))); infer_instance; exact (Nat.le_of_ble_eq_true rfl); (simp only [List.drop_succ_cons, List.drop_zero, List.take_succ_cons, List.take_zero]; rfl); exact rfl; (simp only [Act.put, zA, zB, zC])) | ((with_reducible apply wpSched_pure); exact rfl; exact rfl; (intro w'; go_simp; try with_reducible rfl); (simp only [Act.put, zA, zB, zC])))
        refine fork_end rfl rfl ?_ ?_
        · go_wp2_with ((go_at_call 89; go_must ((with_reducible refine (AC.out _ _ HO (by intro e he; repeat (first | exact he | apply List.mem_cons_of_mem))).mono ?_); rintro e w ⟨rfl, hb⟩; replace HO := HO.call hb; clear hb)))
          refine thenQ_keep (HO.heldO (by with_reducible (repeat (exact List.Sublist.refl _)))) ?_
          refine wpS_fin ?_
          repeat (((with_reducible apply wpSched_pure); exact rfl; exact rfl; (intro w'; go_simp; try with_reducible rfl); (simp only [Act.put, zA, zB, zC])))
          ((with_reducible apply wpSched_loud); exact rfl; (((with_reducible apply wpList_allocAgg _ HO rfl); exact rfl; infer_instance; exact rfl; clear HO; intro b8 w HO; (simp only [Act.put, zA, zB, zC]))))
          refine wpList_nil (thenQ_keep (HO.heldO (by with_reducible (repeat (first | exact List.Sublist.refl _ | apply List.Sublist.cons)))) ?_)
          ((with_reducible apply wpSched_loud); exact rfl; ((with_reducible apply wpList_storeAll HO); exact rfl; exact rfl; exact rfl; (repeat (with_reducible (exact At.head _))); infer_instance; exact rfl; exact rfl; exact rfl; exact rfl; clear HO; intro w HO; (simp only [Act.put])))
          refine wpList_nil (thenQ_keep (HO.heldO (by with_reducible (repeat (first | exact List.Sublist.refl _ | apply List.Sublist.cons)))) ?_)
          repeat ((with_reducible apply wpSched_pure); exact rfl; exact rfl; (intro w'; go_simp; try with_reducible rfl); (simp only [Act.put, zA, zB, zC]))
          refine wpSched_end ?_
          go_wp2_with fail
          go_meet
          exact ⟨b8, rfl, rfl, HO⟩
        · (((with_reducible apply wpList_allocAgg _ HO rfl); exact rfl; infer_instance; exact rfl; clear HO; intro b8 w HO; (simp only [Act.put, zA, zB, zC])))
          refine wpList_nil (thenQ_keep (HO.heldO (by with_reducible (repeat (first | exact List.Sublist.refl _ | apply List.Sublist.cons)))) ?_)
          refine wpS_fin ?_
          ((with_reducible apply wpSched_loud); exact rfl; go_wp2_with ((go_at_call 89; go_must ((with_reducible refine (AC.out _ _ HO (by intro e he; repeat (first | exact he | apply List.mem_cons_of_mem))).mono ?_); rintro e w ⟨rfl, hb⟩; replace HO := HO.call hb; clear hb))))
          refine thenQ_keep (HO.heldO (by with_reducible (repeat (first | exact List.Sublist.refl _ | apply List.Sublist.cons)))) ?_
          repeat (((with_reducible apply wpSched_pure); exact rfl; exact rfl; (intro w'; go_simp; try with_reducible rfl); (simp only [Act.put, zA, zB, zC])))
          ((with_reducible apply wpSched_loud); exact rfl; ((with_reducible apply wpList_storeAll HO); exact rfl; exact rfl; exact rfl; (repeat (with_reducible (exact At.head _))); infer_instance; exact rfl; exact rfl; exact rfl; exact rfl; clear HO; intro w HO; (simp only [Act.put])))
          refine wpList_nil (thenQ_keep (HO.heldO (by with_reducible (repeat (first | exact List.Sublist.refl _ | apply List.Sublist.cons)))) ?_)
          repeat ((with_reducible apply wpSched_pure); exact rfl; exact rfl; (intro w'; go_simp; try with_reducible rfl); (simp only [Act.put, zA, zB, zC]))
          refine wpSched_end ?_
          go_wp2_with fail
          go_meet
          exact ⟨b8, rfl, rfl, HO⟩
  clear HO
  obtain ⟨b8, rfl, rfl, HO⟩ := hcut
  go_wp2_with (fail)
  go_ret
  first | exact ⟨rfl, ⟨r, v, u, v0, v1, v2⟩, rfl, [], HO.tail.tail, HG.out⟩ | exact ⟨rfl, ⟨r, v, u, v0, v1, v2⟩, [], rfl, HO.tail.tail, HG.out⟩

def sdC (q : Nat) (o : Int) : ByteArray := ⟨#[115]⟩ ++ ⟨(Lib.decDigits q).toArray⟩ ++ ⟨#[45]⟩ ++ ⟨(Lib.itoa o).toArray⟩
set_option maxHeartbeats 64000000 in
set_option maxRecDepth 100000 in
theorem rcApp4yes_any {W w : World} {M G : List Ent} {x : RcA} {S : CoS} {A : InS} {v9 : Value} (y : EntS) (HO : Own W w (rcB x A :: M)) (hG : RcIn W G x S A) (hm : ∀ e ∈ G, e ∈ M) (hy : EntF W G y v9) (hk : y.k = 4) (hA : InOk A) (hlen : S.P.length ≤ 99000) (ha : accE A y.p y.q y.rs = 0) :
    Calls Tryz.prog 28 #[.pointer (some ⟨x.r, 0, none⟩), .agg #[.int .i64 (y).k, .int .i64 (y).id, .string ⟨(y).ref.toArray⟩, .string ⟨(y).sku.toArray⟩, .int .i64 (y).qty, .int .i64 (y).amt, .int .i64 (y).o, .int .i64 (y).d, .int .i64 (y).c, .int .i64 (y).p, .int .i64 (y).q, v9]] w fun e w' => e = .returned (.int .i64 0) ∧ ∃ (x' : RcA) (N : List Ent), x'.r = x.r ∧ Own W w' (rcB x' (A.put y.p y.q y.rs) :: (N ++ M)) ∧ RcIn W (N ++ G) x' { S with P := rawStmt S.P (byI A (A.put y.p y.q y.rs)) y.q 60 } (A.put y.p y.q y.rs) := by
  have hu := (hy.rows w HO.grown (fun e he => HO.has _ (.tail _ (hm e he)))).slice
  obtain ⟨vp, vc, rfl, -⟩ := hu
  obtain ⟨r, v, u, v0, v1, v2⟩ := x
  obtain ⟨yk, yid, yref, ysku, yq, ya, yo, yd, yc, p, q, rs⟩ := y
  have hrs := hy.rows
  simp only at hk ha hrs
  subst hk
  have hst := okStmt_ok (accE_ok ha).1
  have hp3 : p = 0 ∨ p = 1 ∨ p = 2 := by omega
  have hB : InOk (A.put p q rs) := put_ok hA (accE_ok ha).1
  obtain ⟨qn, rfl⟩ : ∃ n : Nat, q = (n : Int) := ⟨q.toNat, by omega⟩
  have hqn : qn < 9223372036854775808 := by omega
  change Calls Tryz.prog 28 _ w fun e w' => e = .returned (.int .i64 0) ∧ ∃ (x' : RcA) (N : List Ent), x'.r = r ∧ Own W w' (rcB x' (A.put p qn rs) :: (N ++ M)) ∧ RcIn W (N ++ G) x' { S with P := rawStmt S.P (byI A (A.put p qn rs)) qn 60 } (A.put p qn rs)
  have AC := (fun (w : World) (L : List Ent) (h : Own W w L) (hM : ∀ e ∈ M, e ∈ L) => show Calls Tryz.prog 89 #[.agg #[.int .i64 (A).p0, .int .i64 (A).q0, v0, .int .i64 (A).p1, .int .i64 (A).q1, v1, .int .i64 (A).p2, .int .i64 (A).q2, v2], .agg #[.int .i64 p, .int .i64 (qn : Int), .slice vp rs.length vc]] w fun e w' => e = .returned (.tuple #[.agg #[.int .i64 ((A.put p qn rs)).p0, .int .i64 ((A.put p qn rs)).q0, (if p = 0 then (.slice vp rs.length vc) else v0), .int .i64 ((A.put p qn rs)).p1, .int .i64 ((A.put p qn rs)).q1, (if p = 1 then (.slice vp rs.length vc) else v1), .int .i64 ((A.put p qn rs)).p2, .int .i64 ((A.put p qn rs)).q2, (if p = 2 then (.slice vp rs.length vc) else v2)], .int .i64 0]) ∧ Below w.heap.size w w' from by
    have h1 := hG.at h (fun e he => hM e (hm e he))
    refine (refAccept_any A p qn rs h1.i0 h1.i1 h1.i2 (hrs w h.grown (fun e he => h.has _ (hM e (hm e he))))).mono ?_
    intro e w' he
    unfold RefAccPost at he
    rw [if_pos ha] at he
    exact ⟨he.2, he.1⟩)
  have HB := (fun (w' : World) (hb : Below W.heap.size W w') (hF : ∀ e ∈ G, e.F w') => rc_put (p := p) (q := qn) (hG w' hb hF).i0 (hG w' hb hF).i1 (hG w' hb hF).i2 (hrs w' hb hF) hp3)
  simp only at HB
  have D1 := fun w => digits24_any qn hqn w
  have hlq : (Lib.decDigits qn).length ≤ 25 := by
    have := Lib.itoa_length_le (qn : Int) (by omega) (by omega)
    rw [Lib.itoa_nonneg] at this
    omega
  have HIQ := Lib.hid (show ∀ o, sidK (qn : Int) o = sdC qn o from fun o => by unfold sidK sdC; rw [Lib.itoa_nonneg])
  generalize hw0 : (if p = 0 then (Value.slice vp rs.length vc) else v0) = w0 at *
  generalize hw1 : (if p = 1 then (Value.slice vp rs.length vc) else v1) = w1 at *
  generalize hw2 : (if p = 2 then (Value.slice vp rs.length vc) else v2) = w2 at *
  generalize hBB : A.put p qn rs = B at *
  have hBw := HB w HO.grown (fun e he => HO.has _ (.tail _ (hm e he)))
  obtain ⟨t0, d0, hs0, -⟩ := hBw.1.slice
  obtain ⟨t1, d1, hs1, -⟩ := hBw.2.1.slice
  obtain ⟨t2, d2, hs2, -⟩ := hBw.2.2.slice
  clear hw0 hw1 hw2 hBw
  subst hs0
  subst hs1
  subst hs2
  have NB0 := Lib.hid (fun (o : Int) (w : World) (L : List Ent) (h : Own W w L) (hM : ∀ e ∈ M, e ∈ L) => have h1 := HB w h.grown (fun e he => h.has _ (hM e (hm e he))); refNet_any B o h1.1 h1.2.1 h1.2.2 hB)
  have NA0 := Lib.hid (fun (o : Int) (w : World) (L : List Ent) (h : Own W w L) (hM : ∀ e ∈ M, e ∈ L) => have h1 := hG.at h (fun e he => hM e (hm e he)); refNet_any A o h1.i0 h1.i1 h1.i2 hA)
  have bB := netI_bound hB
  have bA := netI_bound hA
  have HGB := Lib.hid (show RcIn W G ⟨r, v, u, .slice t0 B.r0.length d0, .slice t1 B.r1.length d1, .slice t2 B.r2.length d2⟩ S B from fun w' hb hF => ⟨(hG w' hb hF).l, (hG w' hb hF).b, (HB w' hb hF).1, (HB w' hb hF).2.1, (HB w' hb hF).2.2⟩)
  have HM := Lib.hid hm
  replace AC := Lib.hid AC
  unfold rcB rcC at HO
  simp only at HO
  clear hG hy hm hrs ha hst hp3 HB hB hA hBB
  go_enter Tryz.func28, Tryz.ntmps28
  go_upto_region 24 with (first | (((with_reducible apply wpList_loadOne HO); exact rfl; exact rfl; (repeat (with_reducible (exact At.head _))); exact rfl; infer_instance; exact rfl; (simp only [Act.put, zA, zB, zC]))) | (((with_reducible apply wpList_boxAgg _ HO rfl); exact rfl; exact rfl; exact rfl; clear HO; intro b1 w HO; (simp only [Act.put, zA, zB, zC]))))
  go_cut [8, 9] (fun x e wx => ∃ b8, x = .pointer (some ⟨b8, 0, none⟩) ∧ e = .int .i64 0 ∧ Own W wx (box b8 (.cells #[.int .i64 B.p0, .int .i64 B.q0, .slice t0 B.r0.length d0, .int .i64 B.p1, .int .i64 B.q1, .slice t1 B.r1.length d1, .int .i64 B.p2, .int .i64 B.q2, .slice t2 B.r2.length d2] 150) :: box b1 (.cells #[.int .i64 4, .int .i64 yid, .string ⟨yref.toArray⟩, .string ⟨ysku.toArray⟩, .int .i64 yq, .int .i64 ya, .int .i64 yo, .int .i64 yd, .int .i64 yc, .int .i64 p, .int .i64 (qn : Int), .slice vp rs.length vc] 34) :: box r (.cells #[v, u, .int .i64 A.p0, .int .i64 A.q0, v0, .int .i64 A.p1, .int .i64 A.q1, v1, .int .i64 A.p2, .int .i64 A.q2, v2] 152) :: M))
  case first =>
        refine region_treeO (box b1 (.cells #[.int .i64 4, .int .i64 yid, .string ⟨yref.toArray⟩, .string ⟨ysku.toArray⟩, .int .i64 yq, .int .i64 ya, .int .i64 yo, .int .i64 yd, .int .i64 yc, .int .i64 p, .int .i64 (qn : Int), .slice vp rs.length vc] 34) :: box r (.cells #[v, u, .int .i64 A.p0, .int .i64 A.q0, v0, .int .i64 A.p1, .int .i64 A.q1, v1, .int .i64 A.p2, .int .i64 A.q2, v2] 152) :: M) [(0, true), (1, true), (2, true), (3, true), (4, true), (5, true), (7, true), (8, true), (9, true), (12, true)] (.fork [(0, true), (1, true), (2, true), (3, true), (4, true), (5, true)] 6 10 (.fin [(7, true), (8, true), (9, true), (10, false), (11, false), (12, true)]) (.fin [(6, false), (7, true), (8, true), (9, true), (11, false), (12, true)])) HO (by with_reducible (repeat (exact List.Sublist.refl _))) (by kernel_rfl) (by kernel_rfl) ?_
        clear HO
        intro w HO
        refine wpS_fork ?_
        repeat (first | ((with_reducible apply wpSched_loadPart); exact rfl; exact rfl; (exact rfl); (repeat (with_reducible (first | exact At.head _ | apply At.tail))); infer_instance; exact (Nat.le_of_ble_eq_true rfl); (simp only [List.drop_succ_cons, List.drop_zero, List.take_succ_cons, List.take_zero]; rfl); exact rfl; (simp only [Act.put, zA, zB, zC])) | ((with_reducible apply wpSched_pure); exact rfl; exact rfl; (intro w'; go_simp; try with_reducible rfl); (simp only [Act.put, zA, zB, zC])))
        refine fork_end rfl rfl ?_ ?_
        · go_wp2_with ((go_at_call 89; go_must ((with_reducible refine (AC.out _ _ HO (by intro e he; repeat (first | exact he | apply List.mem_cons_of_mem))).mono ?_); rintro e w ⟨rfl, hb⟩; replace HO := HO.call hb; clear hb)))
          refine thenQ_keep (HO.heldO (by with_reducible (repeat (exact List.Sublist.refl _)))) ?_
          refine wpS_fin ?_
          repeat (((with_reducible apply wpSched_pure); exact rfl; exact rfl; (intro w'; go_simp; try with_reducible rfl); (simp only [Act.put, zA, zB, zC])))
          ((with_reducible apply wpSched_loud); exact rfl; (((with_reducible apply wpList_allocAgg _ HO rfl); exact rfl; infer_instance; exact rfl; clear HO; intro b8 w HO; (simp only [Act.put, zA, zB, zC]))))
          refine wpList_nil (thenQ_keep (HO.heldO (by with_reducible (repeat (first | exact List.Sublist.refl _ | apply List.Sublist.cons)))) ?_)
          ((with_reducible apply wpSched_loud); exact rfl; ((with_reducible apply wpList_storeAll HO); exact rfl; exact rfl; exact rfl; (repeat (with_reducible (exact At.head _))); infer_instance; exact rfl; exact rfl; exact rfl; exact rfl; clear HO; intro w HO; (simp only [Act.put])))
          refine wpList_nil (thenQ_keep (HO.heldO (by with_reducible (repeat (first | exact List.Sublist.refl _ | apply List.Sublist.cons)))) ?_)
          repeat ((with_reducible apply wpSched_pure); exact rfl; exact rfl; (intro w'; go_simp; try with_reducible rfl); (simp only [Act.put, zA, zB, zC]))
          refine wpSched_end ?_
          go_wp2_with fail
          go_meet
          exact ⟨b8, rfl, rfl, HO⟩
        · (((with_reducible apply wpList_allocAgg _ HO rfl); exact rfl; infer_instance; exact rfl; clear HO; intro b8 w HO; (simp only [Act.put, zA, zB, zC])))
          refine wpList_nil (thenQ_keep (HO.heldO (by with_reducible (repeat (first | exact List.Sublist.refl _ | apply List.Sublist.cons)))) ?_)
          refine wpS_fin ?_
          ((with_reducible apply wpSched_loud); exact rfl; go_wp2_with ((go_at_call 89; go_must ((with_reducible refine (AC.out _ _ HO (by intro e he; repeat (first | exact he | apply List.mem_cons_of_mem))).mono ?_); rintro e w ⟨rfl, hb⟩; replace HO := HO.call hb; clear hb))))
          refine thenQ_keep (HO.heldO (by with_reducible (repeat (first | exact List.Sublist.refl _ | apply List.Sublist.cons)))) ?_
          repeat (((with_reducible apply wpSched_pure); exact rfl; exact rfl; (intro w'; go_simp; try with_reducible rfl); (simp only [Act.put, zA, zB, zC])))
          ((with_reducible apply wpSched_loud); exact rfl; ((with_reducible apply wpList_storeAll HO); exact rfl; exact rfl; exact rfl; (repeat (with_reducible (exact At.head _))); infer_instance; exact rfl; exact rfl; exact rfl; exact rfl; clear HO; intro w HO; (simp only [Act.put])))
          refine wpList_nil (thenQ_keep (HO.heldO (by with_reducible (repeat (first | exact List.Sublist.refl _ | apply List.Sublist.cons)))) ?_)
          repeat ((with_reducible apply wpSched_pure); exact rfl; exact rfl; (intro w'; go_simp; try with_reducible rfl); (simp only [Act.put, zA, zB, zC]))
          refine wpSched_end ?_
          go_wp2_with fail
          go_meet
          exact ⟨b8, rfl, rfl, HO⟩
  clear HO AC
  obtain ⟨b8, rfl, rfl, HO⟩ := hcut
  go_wp2_with (fail)
  go_loopw [10] (fun o wr => ∃ (k : Nat) (u' : Value) (N : List Ent), k ≤ 60 ∧ o = .int .i64 ((k : Int) + 1) ∧ RcIn W (N ++ G) ⟨r, v, u', .slice t0 B.r0.length d0, .slice t1 B.r1.length d1, .slice t2 B.r2.length d2⟩ ⟨S.L, rawStmt S.P (byI A B) qn k⟩ B ∧ (rawStmt S.P (byI A B) qn k).length ≤ S.P.length + k ∧ Own W wr (box b8 (.cells #[.int .i64 B.p0, .int .i64 B.q0, .slice t0 B.r0.length d0, .int .i64 B.p1, .int .i64 B.q1, .slice t1 B.r1.length d1, .int .i64 B.p2, .int .i64 B.q2, .slice t2 B.r2.length d2] 150) :: box b1 (.cells #[.int .i64 4, .int .i64 yid, .string ⟨yref.toArray⟩, .string ⟨ysku.toArray⟩, .int .i64 yq, .int .i64 ya, .int .i64 yo, .int .i64 yd, .int .i64 yc, .int .i64 p, .int .i64 (qn : Int), .slice vp rs.length vc] 34) :: box r (.cells #[v, u', .int .i64 A.p0, .int .i64 A.q0, v0, .int .i64 A.p1, .int .i64 A.q1, v1, .int .i64 A.p2, .int .i64 A.q2, v2] 152) :: (N ++ M))) (fun o _ => 62 - (intOf o).toNat)
  case atStart => exact ⟨0, u, [], by omega, rfl, HGB.out, Nat.le_refl _, HO⟩
  case round =>
    clear HO
    obtain ⟨k, u', N, hk, rfl, hR, hlk, HO⟩ := hrel
    by_cases hk60 : k < 60
    rotate_left
    · have hk' : k = 60 := by omega
      have hkI : ¬ ((k : Int) + 1 ≤ 60) := by omega
      subst hk'
      have HR := Lib.hid hR
      clear hR hlk hk60 NA0 NB0 D1 HIQ bB bA
      go_wp2_with (first | (((with_reducible apply wpList_loadAll HO); exact rfl; exact rfl; (repeat (with_reducible (exact At.head _))); infer_instance; exact rfl; exact rfl; (simp only [Act.put, zA, zB, zC]))) | ((with_reducible apply wpList_storePart HO); exact rfl; exact rfl; ((simp [Act.eval]; rfl)); exact rfl; (repeat (with_reducible (first | exact At.head _ | apply At.tail))); infer_instance; exact rfl; exact (by simp); (simp only [putL, List.drop_succ_cons, List.drop_zero, List.take_succ_cons, List.take_zero, List.length_cons, List.length_nil, List.cons_append, List.nil_append, List.append_nil, Nat.reduceAdd]; rfl); exact rfl; exact rfl; clear HO; intro w HO; (simp only [Act.put])))
      go_ret
      have h6 := HO.perm ((List.perm_append_comm (l₁ := [_, _]) (l₂ := [_])).append_right (N ++ M))
      simp only [List.cons_append, List.nil_append] at h6
      have h8 := fun (a b : Ent) => HR.out.mono (H := (a :: b :: N) ++ G) (fun e he => by
        rcases List.mem_append.1 he with he | he
        · exact List.mem_append_left _ (List.mem_cons_of_mem _ (List.mem_cons_of_mem _ he))
        · exact List.mem_append_right _ he)
      exact ⟨rfl, ⟨r, v, u', .slice t0 B.r0.length d0, .slice t1 B.r1.length d1, .slice t2 B.r2.length d2⟩, rfl, _ :: _ :: N, h6, h8 _ _⟩
    · have hkI : (k : Int) + 1 ≤ 60 := by omega
      have NA := Lib.hid (NA0.out ((k : Int) + 1))
      have NB := Lib.hid (NB0.out ((k : Int) + 1))
      have D2 : ∀ w, Calls Tryz.prog 91 #[.int .i64 ((k : Int) + 1)] w fun e w' => e = .returned (.string ⟨(Lib.decDigits (k + 1)).toArray⟩) ∧ Below w.heap.size w w' := fun w => digits24_any (k + 1) (by omega) w
      have hl2 : (Lib.decDigits (k + 1)).length ≤ 25 := by
        have := Lib.itoa_length_le ((k + 1 : Nat) : Int) (by omega) (by omega)
        rw [Lib.itoa_nonneg] at this
        omega
      have z1 : (⟨(Lib.decDigits qn).toArray⟩ : ByteArray).size ≤ 25 := by rw [str_size]; exact hlq
      have z2 : (⟨(Lib.decDigits (k + 1)).toArray⟩ : ByteArray).size ≤ 25 := by rw [str_size]; exact hl2
      have HS := Lib.hid (show sidK (qn : Int) ((k : Int) + 1) = (⟨#[115]⟩ : ByteArray) ++ ⟨(Lib.decDigits qn).toArray⟩ ++ ⟨#[45]⟩ ++ ⟨(Lib.decDigits (k + 1)).toArray⟩ from (HIQ.out _).trans (by unfold sdC; rw [show ((k : Int) + 1) = ((k + 1 : Nat) : Int) from rfl, Lib.itoa_nonneg]))
      have hnx := Lib.hid (show rawStmt S.P (byI A B) qn (k + 1) = if netI B ((k : Int) + 1) - netI A ((k : Int) + 1) = 0 then rawStmt S.P (byI A B) qn k else rawStmt S.P (byI A B) qn k ++ [stPst qn ((k : Int) + 1) (netI B ((k : Int) + 1) - netI A ((k : Int) + 1))] from rfl)
      have HSP := Lib.hid (fun x => show stPst qn ((k : Int) + 1) x = if x < 0 then ⟨sidK qn ((k : Int) + 1), (k : Int) + 1, 1, 2, -x⟩ else ⟨sidK qn ((k : Int) + 1), (k : Int) + 1, 2, 1, x⟩ from rfl)
      have bB1 := bB ((k : Int) + 1)
      have bA1 := bA ((k : Int) + 1)
      have HR := Lib.hid hR
      have HMN := Lib.hid (show ∀ e ∈ N ++ G, e ∈ N ++ M from fun e he => by
        rcases List.mem_append.1 he with he | he
        · exact List.mem_append_left _ he
        · exact List.mem_append_right _ (HM.out e he))
      clear NA0 NB0 bB bA HIQ hR hlq hl2
      generalize hPy : rawStmt S.P (byI A B) qn (k + 1) = Py at *
      generalize rawStmt S.P (byI A B) qn k = Px at *
      generalize netI B ((k : Int) + 1) = nb at *
      generalize netI A ((k : Int) + 1) = na at *
      generalize sidK qn ((k : Int) + 1) = id9 at *
      generalize (⟨(Lib.decDigits qn).toArray⟩ : ByteArray) = x1 at *
      generalize (⟨(Lib.decDigits (k + 1)).toArray⟩ : ByteArray) = x2 at *
      have q1 : ((⟨#[115]⟩ : ByteArray) ++ x1).size = 1 + x1.size := by rw [ByteArray.size_append]; rfl
      have q2 : ((⟨#[115]⟩ : ByteArray) ++ x1 ++ ⟨#[45]⟩).size = 1 + x1.size + 1 := by rw [ByteArray.size_append, q1]; rfl
      have a1 : ¬ (9223372036854775807 < (⟨#[115]⟩ : ByteArray).size + x1.size) := by show ¬ (9223372036854775807 < 1 + x1.size); omega
      have a1' : ¬ (9223372036854775807 < 1 + x1.size) := by omega
      have a2 : ¬ (9223372036854775807 < ((⟨#[115]⟩ : ByteArray) ++ x1).size + (⟨#[45]⟩ : ByteArray).size) := by rw [q1]; show ¬ (9223372036854775807 < 1 + x1.size + 1); omega
      have a2' : ¬ (9223372036854775807 < 1 + x1.size + 1) := by omega
      have a3 : ¬ (9223372036854775807 < ((⟨#[115]⟩ : ByteArray) ++ x1 ++ ⟨#[45]⟩).size + x2.size) := by rw [q2]; omega
      have a3' : ¬ (9223372036854775807 < 1 + x1.size + 1 + x2.size) := by omega
      have hwr : IntKind.i64.wrap (nb - na) = nb - na := wrap_in (inI_iff.2 (by omega))
      have hlx : Px.length ≤ 100000 := by omega
      have hp2 := fun (a b X : Ent) => (List.perm_append_comm (l₁ := [a, b]) (l₂ := [X])).append_right (N ++ M)
      have PO := Lib.hid (fun (d c' am : Int) (w : World) (a b : Ent) (h : Own W w (a :: b :: rcB ⟨r, v, u', v0, v1, v2⟩ A :: (N ++ M))) => rcPost_any (P := Px) id9 ((k : Int) + 1) d c' am (h.perm (hp2 a b _)) (fun w' L' h hM => (HR.out.at h (fun e he => hM e (.tail _ (.tail _ (HMN.out e he))))).b) hlx)
      go_upto_region 30 with (fail)
      refine region_own HO (by kernel_rfl) (by kernel_rfl) ?_
      clear HO
      intro F HF
      repeat (first | (first | ((with_reducible apply wpQuiet_loadAll HF); exact rfl; exact rfl; (repeat (with_reducible (exact At.head _))); infer_instance; exact rfl; exact rfl; (simp only [Act.put, zA, zB, zC])) | ((with_reducible apply wpQuiet_loadPart HF); exact rfl; exact rfl; (repeat (with_reducible (first | exact At.head _ | apply At.tail))); infer_instance; exact (Nat.le_of_ble_eq_true rfl); (simp only [List.drop_succ_cons, List.drop_zero, List.take_succ_cons, List.take_zero]; rfl); exact rfl; (simp only [Act.put, zA, zB, zC]))) | go_big_quiet_step ((go_at_call 90; first | (with_reducible exact calls_fam HF (NB.out _ _ (HF.own _) (by intro e he; exact List.mem_cons_of_mem _ (List.mem_cons_of_mem _ (List.mem_cons_of_mem _ (List.mem_append_right _ he)))))) | (with_reducible exact calls_fam HF (NA.out _ _ (HF.own _) (by intro e he; exact List.mem_cons_of_mem _ (List.mem_cons_of_mem _ (List.mem_cons_of_mem _ (List.mem_append_right _ he)))))))))
      refine wpQuiet_nil ?_
      intro x
      have HO := HF.own x
      clear HF
      generalize F x = w at *
      clear x F
      by_cases c1 : 0 < nb - na
      · rw [if_neg (by omega), HSP.out, if_neg (by omega)] at hnx
        replace hPy := Lib.hid (hPy.trans hnx.out)
        go_wp2_with (first | (((with_reducible apply wpList_loadOne HO); exact rfl; exact rfl; (repeat (with_reducible (first | exact At.head _ | apply At.tail))); exact rfl; infer_instance; exact rfl; (simp only [Act.put, zA, zB, zC]))) | (go_at_call 91; first | ((with_reducible refine (D1 _).mono ?_); (rintro e w ⟨rfl, hb⟩; replace HO := HO.call hb; clear hb)) | ((with_reducible refine (D2 _).mono ?_); (rintro e w ⟨rfl, hb⟩; replace HO := HO.call hb; clear hb))) | (go_at_call 92; rw [← HS.out]; go_must ((have h9 := PO.out 2 1 (nb - na) _ _ _ HO); (with_reducible refine h9.mono ?_); clear h9 HO; rintro e w ⟨rfl, u9, HO⟩)))
        go_roundw
        case rel =>
          have h6 := HO.perm ((List.perm_append_comm (l₁ := [_, _]) (l₂ := [_, _])).append_right (N ++ M))
          simp only [List.cons_append, List.nil_append] at h6
          exact ⟨k + 1, u9, row 187 5 u9 ((Px ++ [(⟨id9, (k : Int) + 1, 2, 1, nb - na⟩ : Pst)]).map pstC) :: N, by omega, by go_num, by rw [hPy.out]; exact HR.out.setP u9 (Px ++ [(⟨id9, (k : Int) + 1, 2, 1, nb - na⟩ : Pst)]) _, by rw [hPy.out]; simp; omega, h6⟩
        case measure => simp [intOf] <;> omega
      by_cases c2 : nb - na < 0
      · rw [if_neg (by omega), HSP.out, if_pos (by omega)] at hnx
        replace hPy := Lib.hid (hPy.trans hnx.out)
        go_wp2_with (first | (((with_reducible apply wpList_loadOne HO); exact rfl; exact rfl; (repeat (with_reducible (first | exact At.head _ | apply At.tail))); exact rfl; infer_instance; exact rfl; (simp only [Act.put, zA, zB, zC]))) | (go_at_call 91; first | ((with_reducible refine (D1 _).mono ?_); (rintro e w ⟨rfl, hb⟩; replace HO := HO.call hb; clear hb)) | ((with_reducible refine (D2 _).mono ?_); (rintro e w ⟨rfl, hb⟩; replace HO := HO.call hb; clear hb))) | (go_at_call 92; rw [← HS.out]; go_must ((have h9 := PO.out 1 2 (-(nb - na)) _ _ _ HO); (with_reducible refine h9.mono ?_); clear h9 HO; rintro e w ⟨rfl, u9, HO⟩)))
        go_roundw
        case rel =>
          have h6 := HO.perm ((List.perm_append_comm (l₁ := [_, _]) (l₂ := [_, _])).append_right (N ++ M))
          simp only [List.cons_append, List.nil_append] at h6
          exact ⟨k + 1, u9, row 187 5 u9 ((Px ++ [(⟨id9, (k : Int) + 1, 1, 2, -(nb - na)⟩ : Pst)]).map pstC) :: N, by omega, by go_num, by rw [hPy.out]; exact HR.out.setP u9 (Px ++ [(⟨id9, (k : Int) + 1, 1, 2, -(nb - na)⟩ : Pst)]) _, by rw [hPy.out]; simp; omega, h6⟩
        case measure => simp [intOf] <;> omega
      rw [if_pos (by omega)] at hnx
      replace hPy := Lib.hid (hPy.trans hnx.out)
      go_wp2_with (first | (((with_reducible apply wpList_loadOne HO); exact rfl; exact rfl; (repeat (with_reducible (first | exact At.head _ | apply At.tail))); exact rfl; infer_instance; exact rfl; (simp only [Act.put, zA, zB, zC]))) | (go_at_call 91; first | ((with_reducible refine (D1 _).mono ?_); (rintro e w ⟨rfl, hb⟩; replace HO := HO.call hb; clear hb)) | ((with_reducible refine (D2 _).mono ?_); (rintro e w ⟨rfl, hb⟩; replace HO := HO.call hb; clear hb))))
      go_roundw
      case rel =>
        exact ⟨k + 1, u', N, by omega, by go_num, by rw [hPy.out]; exact HR.out, by rw [hPy.out]; omega, HO⟩
      case measure => simp [intOf] <;> omega

/-- An entry: what the document's core comes to is what the program's does. -/
theorem rcApply_any {W w : World} {M G : List Ent} {x : RcA} {S : CoS} {A : InS} {v9 : Value} (y : EntS) (HO : Own W w (rcB x A :: M)) (hG : RcIn W G x S A) (hm : ∀ e ∈ G, e ∈ M) (hy : EntF W G y v9) (hI : CoInv S A) (hids : idsOk S.L) (hlen : S.P.length ≤ 99000) :
    Calls Tryz.prog 28 #[.pointer (some ⟨x.r, 0, none⟩), .agg #[.int .i64 (y).k, .int .i64 (y).id, .string ⟨(y).ref.toArray⟩, .string ⟨(y).sku.toArray⟩, .int .i64 (y).qty, .int .i64 (y).amt, .int .i64 (y).o, .int .i64 (y).d, .int .i64 (y).c, .int .i64 (y).p, .int .i64 (y).q, v9]] w fun e w' => e = .returned (.int .i64 (applyE S A y)) ∧ ∃ (x' : RcA) (N : List Ent), x'.r = x.r ∧ Own W w' (rcB x' (applyI A y) :: (N ++ M)) ∧ RcIn W (N ++ G) x' (applyS S A y) (applyI A y) := by
  rw [← (coInv_step hI hlen y).1]
  rcases five y.k with hk | hk | hk | hk | ⟨h1, h2, h3, h4⟩
  · rw [show applyE S A y = placeE S.L y.ord by unfold applyE; rw [if_pos hk], show rawS S A y = { S with L := placeL S.L y.ord } by unfold rawS; rw [if_pos hk], show applyI A y = A by unfold applyI; rw [if_neg (by rw [hk]; simp)]]
    exact rcApp1_any y HO hG hm hy hI.ok hk
  · rw [show applyE S A y = stopE S.L y.o by unfold applyE; rw [if_neg (by omega), if_pos hk], show rawS S A y = { S with L := stopL S.L y.o } by unfold rawS; rw [if_neg (by omega), if_pos hk], show applyI A y = A by unfold applyI; rw [if_neg (by rw [hk]; simp)]]
    exact rcApp2_any y HO hG hm hy hI.ok hids hk
  · rw [show applyE S A y = replyE S.L y.o y.d y.c by unfold applyE; rw [if_neg (by omega), if_neg (by omega), if_pos hk], show rawS S A y = rawReplyS S y.o y.d y.c by unfold rawS; rw [if_neg (by omega), if_neg (by omega), if_pos hk], show applyI A y = A by unfold applyI; rw [if_neg (by rw [hk]; simp)]]
    exact rcApp3_any y HO hG hm hy hI.ok hids hlen hk
  · rw [show applyE S A y = accE A y.p y.q y.rs by unfold applyE; rw [if_neg (by omega), if_neg (by omega), if_neg (by omega), if_pos hk]]
    by_cases ha : accE A y.p y.q y.rs = 0
    · rw [show rawS S A y = { S with P := rawStmt S.P (byI A (A.put y.p y.q y.rs)) y.q 60 } by unfold rawS; rw [if_neg (by omega), if_neg (by omega), if_neg (by omega), if_pos hk, if_pos ha], show applyI A y = A.put y.p y.q y.rs by unfold applyI; rw [if_pos ⟨hk, ha⟩], ha]
      exact rcApp4yes_any y HO hG hm hy hk hI.inok hlen ha
    · rw [show rawS S A y = S by unfold rawS; rw [if_neg (by omega), if_neg (by omega), if_neg (by omega), if_pos hk, if_neg ha], show applyI A y = A by unfold applyI; rw [if_neg (fun h => ha h.2)]]
      exact rcApp4no_any y HO hG hm hy hk ha
  · rw [show applyE S A y = 2 by unfold applyE; rw [if_neg h1, if_neg h2, if_neg h3, if_neg h4], show rawS S A y = S by unfold rawS; rw [if_neg h1, if_neg h2, if_neg h3, if_neg h4], show applyI A y = A by unfold applyI; rw [if_neg (fun h => h4 h.1)]]
    exact rcApp5_any y HO hG hm hy h1 h2 h3 h4
end Go.Proofs.YtibabfedpdoofaaGreatDoor
namespace Go.Proofs.YtibabfedpdoofaaGreatDoor
open Go.RowKit Go.Own Go.Maps

/-- The document's core in a world. -/
structure RcAt (w : World) (x : RcA) (S : CoS) (A : InS) : Prop where
  box : w.heap[x.r]? = some (.cells (rcC x A).toArray 152)
  s : RcS w x S A
theorem RcS.below {w w' : World} {x : RcA} {S : CoS} {A : InS} (h : RcS w x S A) (hb : Below w.heap.size w w') : RcS w' x S A := ⟨h.l.below hb h.l.lt, h.b.below hb h.b.lt, h.i0.below hb h.i0.lt, h.i1.below hb h.i1.lt, h.i2.below hb h.i2.lt⟩
theorem RcAt.below {w w' : World} {x : RcA} {S : CoS} {A : InS} (h : RcAt w x S A) (hb : Below w.heap.size w w') : RcAt w' x S A := ⟨by rw [hb.block _ (old_lt h.box)]; exact h.box, h.s.below hb⟩
theorem RcIn.full {W w : World} {G L : List Ent} {x : RcA} {S : CoS} {A : InS} (h : RcIn W G x S A) (hO : Own W w L) (hm : ∀ e ∈ G, e ∈ L) (hb : rcB x A ∈ L) : RcAt w x S A := ⟨hO.has _ hb, h.at hO hm⟩

set_option maxHeartbeats 16000000 in
set_option maxRecDepth 100000 in
theorem rcBal_any {W : World} {x : RcA} {S : CoS} {A : InS} (h : RcAt W x S A) (hs : ∀ p ∈ S.P, smallOk p) (hlen : S.P.length ≤ 100000) (n o : Int) : Calls Tryz.prog 95 #[.pointer (some ⟨x.r, 0, none⟩), .int .i64 n, .int .i64 o] W fun e w' => e = .returned (.int .i64 (bal S.P n o)) ∧ Below W.heap.size W w' := by
  have HO := Own.start W
  obtain ⟨p, c, hv, hmx⟩ := h.s.b.slice
  rw [List.length_map] at hv hmx
  have HR := Lib.hid h.s.b
  have h1 := old_cell h.box 1 rfl
  have hlt := old_lt h.box
  have hmx' : (S.P.length : Int) ≤ 100000 := by omega
  rw [hv] at h1
  generalize ha : x.u = av at *
  subst hv
  clear h ha
  have HB := Lib.hid (fun j => bal_small (b := 2199023255552) (by decide) n o (l := S.P.take j) (fun p hp => hs p (List.mem_of_mem_take hp)))
  have HT := Lib.hid (fun (j : Nat) (hj : j < S.P.length) => show bal (S.P.take (j + 1)) n o = bal (S.P.take j) n o + delta S.P[j] n o from by rw [List.take_succ_eq_append_getElem hj, bal_snoc])
  have HM := Lib.hid (fun (j : Nat) (hj : j < S.P.length) => hs S.P[j] (List.getElem_mem hj))
  generalize hg : bal S.P n o = g0
  replace hg := Lib.hid hg
  clear hs
  go_enter Tryz.func95, Tryz.ntmps95
  go_wp2_with (fail)
  go_loopw [7, 8] (fun sv iv wr => ∃ j : Nat, j ≤ S.P.length ∧ iv = .int .i64 (j : Int) ∧ sv = .int .i64 (bal (S.P.take j) n o) ∧ Own W wr []) (fun _ iv _ => S.P.length - (intOf iv).toNat)
  case atStart => exact ⟨0, by omega, rfl, rfl, HO⟩
  case round =>
    clear HO
    obtain ⟨j, hj, rfl, rfl, HO⟩ := hrel
    by_cases hjl : j < S.P.length
    · have hjI : (j : Int) < (S.P.length : Int) := by omega
      obtain ⟨b, rfl, hst⟩ := oldAt HR.out rfl hjl
      have hbj := HB.out j
      have htl : (S.P.take j).length ≤ j := by simp; omega
      have htj := HT.out j hjl
      have hmj := HM.out j hjl
      have hm1 := mayPst_iff.1 hmj.1
      have hm2 := hmj.2
      have hpa := hm1.2.2.2.2.2.2.2
      clear HB HT HM hmj
      generalize S.P[j] = y at *
      obtain ⟨pi, po, pd, pc, pa⟩ := y
      unfold pstC at hst
      have s1 := fun w' (h1 : Own W w' []) => hst w' h1.grown 1 _ rfl
      have s2 := fun w' (h1 : Own W w' []) => hst w' h1.grown 2 _ rfl
      have s3 := fun w' (h1 : Own W w' []) => hst w' h1.grown 3 _ rfl
      have s4 := fun w' (h1 : Own W w' []) => hst w' h1.grown 4 _ rfl
      rw [show delta ⟨pi, po, pd, pc, pa⟩ n o = if o ≠ 0 ∧ po ≠ o then 0 else if pd = n then pa else if pc = n then -pa else 0 from rfl] at htj
      simp only at hm1 hm2 hpa
      replace htj := Lib.hid htj
      have hlo : -(2199023255552 * (100000 : Int)) ≤ bal (S.P.take j) n o ∧ bal (S.P.take j) n o ≤ 2199023255552 * 100000 := by omega
      clear hst hbj
      generalize bal (S.P.take j) n o = bv at *
      have hx : (o ≠ 0 ∧ po ≠ o) ∨ (o = 0 ∨ o ≠ 0 ∧ po = o) := by omega
      rcases hx with ⟨x1, x2⟩ | hx
      · have x1' : (o != 0) = true := by simpa using x1
        have x2' : (po != o) = true := by simpa using x2
        rw [if_pos ⟨x1, x2⟩] at htj
        go_wp2_with (first | ((with_reducible apply wpList_loadOld1 HO); exact rfl; exact rfl; exact hlt; exact h1; infer_instance; exact rfl; (simp only [Act.put, zA, zB, zC])) | ((with_reducible apply wpList_loadAt1 HO); exact rfl; exact rfl; exact (s1); infer_instance; exact rfl; (simp only [Act.put, zA, zB, zC])))
        go_roundw
        case rel => exact ⟨j + 1, by omega, by go_num, by rw [htj.out, Int.add_zero], HO⟩
        case measure => simp [intOf] <;> omega
      · rw [if_neg (by omega)] at htj
        by_cases d1 : pd = n
        · have d2 : ¬ pc = n := by omega
          rw [if_pos d1] at htj
          clear hm1
          rcases hx with x1 | ⟨x1, x2⟩
          · go_wp2_with (first | ((with_reducible apply wpList_loadOld1 HO); exact rfl; exact rfl; exact hlt; exact h1; infer_instance; exact rfl; (simp only [Act.put, zA, zB, zC])) | ((with_reducible apply wpList_loadAt1 HO); exact rfl; exact rfl; exact (s2); infer_instance; exact rfl; (simp only [Act.put, zA, zB, zC])) | ((with_reducible apply wpList_loadAt1 HO); exact rfl; exact rfl; exact (s3); infer_instance; exact rfl; (simp only [Act.put, zA, zB, zC])) | ((with_reducible apply wpList_loadAt1 HO); exact rfl; exact rfl; exact (s4); infer_instance; exact rfl; (simp only [Act.put, zA, zB, zC])))
            go_roundw
            case rel => exact ⟨j + 1, by omega, by go_num, by rw [htj.out] <;> first | (rw [Int.add_zero]; done) | go_num, HO⟩
            case measure => simp [intOf] <;> omega
          · have x1' : (o != 0) = true := by simpa using x1
            subst x2
            go_wp2_with (first | ((with_reducible apply wpList_loadOld1 HO); exact rfl; exact rfl; exact hlt; exact h1; infer_instance; exact rfl; (simp only [Act.put, zA, zB, zC])) | ((with_reducible apply wpList_loadAt1 HO); exact rfl; exact rfl; exact (s1); infer_instance; exact rfl; (simp only [Act.put, zA, zB, zC])) | ((with_reducible apply wpList_loadAt1 HO); exact rfl; exact rfl; exact (s2); infer_instance; exact rfl; (simp only [Act.put, zA, zB, zC])) | ((with_reducible apply wpList_loadAt1 HO); exact rfl; exact rfl; exact (s3); infer_instance; exact rfl; (simp only [Act.put, zA, zB, zC])) | ((with_reducible apply wpList_loadAt1 HO); exact rfl; exact rfl; exact (s4); infer_instance; exact rfl; (simp only [Act.put, zA, zB, zC])))
            go_roundw
            case rel => exact ⟨j + 1, by omega, by go_num, by rw [htj.out] <;> first | (rw [Int.add_zero]; done) | go_num, HO⟩
            case measure => simp [intOf] <;> omega
        · by_cases d2 : pc = n
          · rw [if_neg d1, if_pos d2] at htj
            clear hm1
            rcases hx with x1 | ⟨x1, x2⟩
            · go_wp2_with (first | ((with_reducible apply wpList_loadOld1 HO); exact rfl; exact rfl; exact hlt; exact h1; infer_instance; exact rfl; (simp only [Act.put, zA, zB, zC])) | ((with_reducible apply wpList_loadAt1 HO); exact rfl; exact rfl; exact (s2); infer_instance; exact rfl; (simp only [Act.put, zA, zB, zC])) | ((with_reducible apply wpList_loadAt1 HO); exact rfl; exact rfl; exact (s3); infer_instance; exact rfl; (simp only [Act.put, zA, zB, zC])) | ((with_reducible apply wpList_loadAt1 HO); exact rfl; exact rfl; exact (s4); infer_instance; exact rfl; (simp only [Act.put, zA, zB, zC])))
              go_roundw
              case rel => exact ⟨j + 1, by omega, by go_num, by rw [htj.out] <;> first | (rw [Int.add_zero]; done) | go_num, HO⟩
              case measure => simp [intOf] <;> omega
            · have x1' : (o != 0) = true := by simpa using x1
              subst x2
              go_wp2_with (first | ((with_reducible apply wpList_loadOld1 HO); exact rfl; exact rfl; exact hlt; exact h1; infer_instance; exact rfl; (simp only [Act.put, zA, zB, zC])) | ((with_reducible apply wpList_loadAt1 HO); exact rfl; exact rfl; exact (s1); infer_instance; exact rfl; (simp only [Act.put, zA, zB, zC])) | ((with_reducible apply wpList_loadAt1 HO); exact rfl; exact rfl; exact (s2); infer_instance; exact rfl; (simp only [Act.put, zA, zB, zC])) | ((with_reducible apply wpList_loadAt1 HO); exact rfl; exact rfl; exact (s3); infer_instance; exact rfl; (simp only [Act.put, zA, zB, zC])) | ((with_reducible apply wpList_loadAt1 HO); exact rfl; exact rfl; exact (s4); infer_instance; exact rfl; (simp only [Act.put, zA, zB, zC])))
              go_roundw
              case rel => exact ⟨j + 1, by omega, by go_num, by rw [htj.out] <;> first | (rw [Int.add_zero]; done) | go_num, HO⟩
              case measure => simp [intOf] <;> omega
          · rw [if_neg d1, if_neg d2] at htj
            clear hm1
            rcases hx with x1 | ⟨x1, x2⟩
            · go_wp2_with (first | ((with_reducible apply wpList_loadOld1 HO); exact rfl; exact rfl; exact hlt; exact h1; infer_instance; exact rfl; (simp only [Act.put, zA, zB, zC])) | ((with_reducible apply wpList_loadAt1 HO); exact rfl; exact rfl; exact (s2); infer_instance; exact rfl; (simp only [Act.put, zA, zB, zC])) | ((with_reducible apply wpList_loadAt1 HO); exact rfl; exact rfl; exact (s3); infer_instance; exact rfl; (simp only [Act.put, zA, zB, zC])))
              go_roundw
              case rel => exact ⟨j + 1, by omega, by go_num, by rw [htj.out] <;> first | (rw [Int.add_zero]; done) | go_num, HO⟩
              case measure => simp [intOf] <;> omega
            · have x1' : (o != 0) = true := by simpa using x1
              subst x2
              go_wp2_with (first | ((with_reducible apply wpList_loadOld1 HO); exact rfl; exact rfl; exact hlt; exact h1; infer_instance; exact rfl; (simp only [Act.put, zA, zB, zC])) | ((with_reducible apply wpList_loadAt1 HO); exact rfl; exact rfl; exact (s1); infer_instance; exact rfl; (simp only [Act.put, zA, zB, zC])) | ((with_reducible apply wpList_loadAt1 HO); exact rfl; exact rfl; exact (s2); infer_instance; exact rfl; (simp only [Act.put, zA, zB, zC])) | ((with_reducible apply wpList_loadAt1 HO); exact rfl; exact rfl; exact (s3); infer_instance; exact rfl; (simp only [Act.put, zA, zB, zC])))
              go_roundw
              case rel => exact ⟨j + 1, by omega, by go_num, by rw [htj.out] <;> first | (rw [Int.add_zero]; done) | go_num, HO⟩
              case measure => simp [intOf] <;> omega
    · obtain rfl : j = S.P.length := by omega
      rw [List.take_length]
      rw [hg.out]
      go_wp2_with (((with_reducible apply wpList_loadOld1 HO); exact rfl; exact rfl; exact hlt; exact h1; infer_instance; exact rfl; (simp only [Act.put, zA, zB, zC])))
      go_ret
      exact ⟨rfl, HO.grown⟩
end Go.Proofs.YtibabfedpdoofaaGreatDoor
namespace Go.Proofs.YtibabfedpdoofaaGreatDoor
open Go.RowKit Go.Own Go.Maps

structure RdAt (w : World) (t : Nat) (v u : Value) (D : DkS) : Prop where
  box : w.heap[t]? = some (.cells [v, u].toArray 108)
  row : IsL w 4 v (D.I.map itemC)
  ps : IsL w 5 u (D.P.map pstC)
theorem RdAt.below {w w' : World} {t : Nat} {v u : Value} {D : DkS} (h : RdAt w t v u D) (hb : Below w.heap.size w w') : RdAt w' t v u D :=
  ⟨by rw [hb.block _ (old_lt h.box)]; exact h.box, h.row.below hb h.row.lt, h.ps.below hb h.ps.lt⟩
def rdPs (t : Nat) (v u : Value) (D : DkS) : List Ent := [rdB t v u, row 111 4 v (D.I.map itemC), row 187 5 u (D.P.map pstC)]
theorem Own.rdAt {W w : World} {L : List Ent} {t : Nat} {v u : Value} {D : DkS} (h : Own W w L) (hm : ∀ e ∈ rdPs t v u D, e ∈ L) : RdAt w t v u D :=
  ⟨h.has _ (hm _ (.head _)), isL_of_owns (itemC_len _) (h.has _ (hm _ (.tail _ (.head _)))), isL_of_owns (pstC_len _) (h.has _ (hm _ (.tail _ (.tail _ (.head _)))))⟩
set_option maxHeartbeats 4000000 in
theorem some_any (a l : Int) (w : World) : Calls Tryz.prog 114 #[.int .i64 a, .int .i64 l] w fun e w' => e = .returned (.bool (withinB a l)) ∧ Below w.heap.size w w' := by
  have HO := Own.start w
  rw [← some_within]
  unfold someB
  by_cases h : 0 < a
  · have d1 : decide (0 < a) = true := decide_eq_true h
    go_enter Tryz.func114, Tryz.ntmps114
    go_wp2_with fail
    all_goals go_ret
    all_goals refine ⟨ret_bool ?_, HO.grown⟩
    all_goals first | (rw [Bool.eq_iff_iff]; done) | (rw [Bool.eq_iff_iff]; simp; done) | (rw [Bool.eq_iff_iff]; simp; omega)
  · have d1 : decide (0 < a) = false := decide_eq_false h
    go_enter Tryz.func114, Tryz.ntmps114
    go_wp2_with fail
    all_goals go_ret
    all_goals refine ⟨ret_bool ?_, HO.grown⟩
    all_goals first | (rw [Bool.eq_iff_iff]; done) | (rw [Bool.eq_iff_iff]; simp; done) | (rw [Bool.eq_iff_iff]; simp; omega)

set_option maxHeartbeats 8000000 in
set_option maxRecDepth 100000 in
theorem rdLeftHeld_any {W : World} {t : Nat} {v u : Value} {D : DkS} {x : RcA} {S : CoS} {A : InS} (h : RdAt W t v u D) (hc : RcAt W x S A) (hI : ItOk D.I) (hB : Bk S.P) (hs : ∀ p ∈ S.P, smallOk p) (hl : S.P.length ≤ 100000) {o : Int} :
    Calls Tryz.prog 113 #[.pointer (some ⟨t, 0, none⟩), .pointer (some ⟨x.r, 0, none⟩), .int .i64 o, .int .i64 0] W fun e w' => e = .returned (.tuple #[.int .i64 (leftF D.I (bal S.P 1 o) o heldS).1, .bool (leftF D.I (bal S.P 1 o) o heldS).2]) ∧ Below W.heap.size W w' := by
  have HO := Own.start W
  have B := fun w' (hb : Below W.heap.size W w') => rcBal_any (hc.below hb) hs hl 1 o
  have hin := hB.bal_in 1 o
  have HI := Lib.hid hI
  obtain ⟨p, c, hv, hmx⟩ := h.row.slice
  rw [List.length_map] at hv hmx
  have HR := Lib.hid h.row
  have h0 := old_cell h.box 0 rfl
  have hlt := old_lt h.box
  have hmx' : (D.I.length : Int) ≤ 9223372036854775807 := by unfold maxLen at hmx; omega
  rw [hv] at h0
  generalize ha : v = av at *
  subst hv
  clear h ha hc hB hI hs
  generalize bal S.P 1 o = n0 at *
  generalize hg : leftF D.I n0 o heldS = g0
  replace hg := Lib.hid hg
  replace hin := Lib.hid hin
  go_enter Tryz.func113, Tryz.ntmps113
  go_wp2_with ((go_at_call 95; go_must ((with_reducible refine (B _ HO.grown).mono ?_); rintro e w ⟨rfl, hb⟩; replace HO := HO.call hb; clear hb)))
  go_loopw [10, 11] (fun nv iv wr => ∃ (j : Nat) (n : Int), j ≤ D.I.length ∧ iv = .int .i64 (j : Int) ∧ nv = .int .i64 n ∧ leftF (D.I.take j) n0 o heldS = (n, true) ∧ Own W wr []) (fun _ iv _ => D.I.length - (intOf iv).toNat)
  case atStart => exact ⟨0, n0, by omega, rfl, rfl, rfl, HO⟩
  case round =>
    clear HO
    obtain ⟨j, n, hj, rfl, rfl, hn, HO⟩ := hrel
    by_cases hjl : j < D.I.length
    · have hjI : (j : Int) < (D.I.length : Int) := by omega
      obtain ⟨b, rfl, hst⟩ := oldAt HR.out rfl hjl
      have hsn := leftF_take hjl n0 o heldS
      have hin2 := leftF_in (D.I.take j) o heldS hin.out
      have hsp := leftF_stop (I := D.I) (n := n0) (o := o) (f := heldS) (j := j + 1)
      have hno := leftF_no (I := D.I.take (j + 1)) (o := o) (f := heldS) hin.out
      rw [hn] at hsn hin2
      obtain ⟨h1, h2, h3, h4⟩ := HI.out _ (List.getElem_mem hjl)
      clear hn
      generalize D.I[j] = y at *
      obtain ⟨yb, yo, ya, ys⟩ := y
      unfold itemC at hst
      replace hst := Lib.hid hst
      simp only at h1 h2 h3 h4 hin2
      have SB := fun w => rSub_any hin2 h2 w
      clear h1 h2 h3 h4
      have hsn := Lib.hid hsn
      by_cases hz : yo = o
      · subst hz
        have hD : (yo != yo) = false := by simp
        cases hf : heldS ys
        · have hf3 : (ys == 3) = true := by simpa [heldS] using hf
          replace hf := Lib.hid hf
          clear SB hsp hno
          have d3 := hf3
          all_goals
            go_wp2_with (first | ((with_reducible apply wpList_loadOld1 HO); exact rfl; exact rfl; exact hlt; exact h0; infer_instance; exact rfl; (simp only [Act.put, zA, zB, zC])) | (((with_reducible apply wpList_loadOne HO); exact rfl; exact rfl; (repeat (with_reducible (exact At.head _))); exact rfl; infer_instance; exact rfl; (simp only [Act.put, zA, zB, zC]))) | ((with_reducible apply wpList_storeAll HO); exact rfl; exact rfl; exact rfl; (repeat (with_reducible (exact At.head _))); infer_instance; exact rfl; exact rfl; exact rfl; exact rfl; clear HO; intro w HO; (simp only [Act.put])) | (((with_reducible apply wpList_allocAgg _ HO rfl); exact rfl; infer_instance; exact rfl; clear HO; intro b12 w HO; (simp only [Act.put, zA, zB, zC]))) | ((with_reducible apply wpList_loadAt HO); exact rfl; exact rfl; exact (fun w' h1 => hst.out w' h1.grown); infer_instance; exact rfl; exact rfl; (simp only [Act.put, zA, zB, zC])))
            replace HO := HO.tail
            go_roundw
            case rel => exact ⟨j + 1, n, by omega, by go_num, rfl, by rw [hsn.out, leftStep_f (x := ⟨yb, yo, ya, ys⟩) rfl hf.out], HO⟩
            case measure => simp [intOf] <;> omega
        · have hf3 : (ys == 3) = false ∧ True := ⟨by simpa [heldS] using hf, trivial⟩
          obtain ⟨d3, d2⟩ := hf3
          have hss := hsn.out
          rw [leftStep_t (x := ⟨yb, yo, ya, ys⟩) rfl hf] at hss
          replace hf := Lib.hid hf
          clear hsn
          cases hk : subI n ya with
          | mk r1 r2 =>
            rw [hk] at SB hss
            cases r2
            · have hE : g0 = (0, false) := by
                rw [← hg.out, hsp (by rw [hss]), hno (by rw [hss])]
              subst hE
              clear hsp hno hss hk
              go_wp2_with (first | go_big_skip | ((with_reducible apply wpList_loadOld1 HO); exact rfl; exact rfl; exact hlt; exact h0; infer_instance; exact rfl; (simp only [Act.put, zA, zB, zC])) | (((with_reducible apply wpList_loadOne HO); exact rfl; exact rfl; (repeat (with_reducible (exact At.head _))); exact rfl; infer_instance; exact rfl; (simp only [Act.put, zA, zB, zC]))) | ((with_reducible apply wpList_storeAll HO); exact rfl; exact rfl; exact rfl; (repeat (with_reducible (exact At.head _))); infer_instance; exact rfl; exact rfl; exact rfl; exact rfl; clear HO; intro w HO; (simp only [Act.put])) | (((with_reducible apply wpList_allocAgg _ HO rfl); exact rfl; infer_instance; exact rfl; clear HO; intro b12 w HO; (simp only [Act.put, zA, zB, zC]))) | ((with_reducible apply wpList_loadAt HO); exact rfl; exact rfl; exact (fun w' h1 => hst.out w' h1.grown); infer_instance; exact rfl; exact rfl; (simp only [Act.put, zA, zB, zC])) | (go_at_call 116; go_must ((with_reducible refine (SB _).mono ?_); rintro e w ⟨rfl, hb⟩; replace HO := HO.call hb; clear hb)))
              go_ret2
              exact ⟨rfl, HO.grown⟩
            · have hss := Lib.hid hss
              clear hsp hno hk
              go_wp2_with (first | go_big_skip | ((with_reducible apply wpList_loadOld1 HO); exact rfl; exact rfl; exact hlt; exact h0; infer_instance; exact rfl; (simp only [Act.put, zA, zB, zC])) | (((with_reducible apply wpList_loadOne HO); exact rfl; exact rfl; (repeat (with_reducible (exact At.head _))); exact rfl; infer_instance; exact rfl; (simp only [Act.put, zA, zB, zC]))) | ((with_reducible apply wpList_storeAll HO); exact rfl; exact rfl; exact rfl; (repeat (with_reducible (exact At.head _))); infer_instance; exact rfl; exact rfl; exact rfl; exact rfl; clear HO; intro w HO; (simp only [Act.put])) | (((with_reducible apply wpList_allocAgg _ HO rfl); exact rfl; infer_instance; exact rfl; clear HO; intro b12 w HO; (simp only [Act.put, zA, zB, zC]))) | ((with_reducible apply wpList_loadAt HO); exact rfl; exact rfl; exact (fun w' h1 => hst.out w' h1.grown); infer_instance; exact rfl; exact rfl; (simp only [Act.put, zA, zB, zC])) | (go_at_call 116; go_must ((with_reducible refine (SB _).mono ?_); rintro e w ⟨rfl, hb⟩; replace HO := HO.call hb; clear hb)))
              replace HO := HO.tail
              go_roundw
              case rel => exact ⟨j + 1, r1, by omega, by go_num, rfl, hss.out, HO⟩
              case measure => simp [intOf] <;> omega
      · have hD : (yo != o) = true := by rw [bne_iff_ne]; exact hz
        clear SB hsp hno
        go_wp2_with (first | go_big_skip | ((with_reducible apply wpList_loadOld1 HO); exact rfl; exact rfl; exact hlt; exact h0; infer_instance; exact rfl; (simp only [Act.put, zA, zB, zC])) | (((with_reducible apply wpList_loadOne HO); exact rfl; exact rfl; (repeat (with_reducible (exact At.head _))); exact rfl; infer_instance; exact rfl; (simp only [Act.put, zA, zB, zC]))) | ((with_reducible apply wpList_storeAll HO); exact rfl; exact rfl; exact rfl; (repeat (with_reducible (exact At.head _))); infer_instance; exact rfl; exact rfl; exact rfl; exact rfl; clear HO; intro w HO; (simp only [Act.put])) | (((with_reducible apply wpList_allocAgg _ HO rfl); exact rfl; infer_instance; exact rfl; clear HO; intro b12 w HO; (simp only [Act.put, zA, zB, zC]))) | ((with_reducible apply wpList_loadAt HO); exact rfl; exact rfl; exact (fun w' h1 => hst.out w' h1.grown); infer_instance; exact rfl; exact rfl; (simp only [Act.put, zA, zB, zC])))
        replace HO := HO.tail
        go_roundw
        case rel => exact ⟨j + 1, n, by omega, by go_num, rfl, by rw [hsn.out, leftStep_other (x := ⟨yb, yo, ya, ys⟩) hz], HO⟩
        case measure => simp [intOf] <;> omega
    · obtain rfl : j = D.I.length := by omega
      rw [List.take_length, hg.out] at hn
      subst hn
      have hjI : ¬ ((D.I.length : Int) < (D.I.length : Int)) := by omega
      go_wp2_with (((with_reducible apply wpList_loadOld1 HO); exact rfl; exact rfl; exact hlt; exact h0; infer_instance; exact rfl; (simp only [Act.put, zA, zB, zC])))
      go_ret2
      exact ⟨rfl, HO.grown⟩

set_option maxHeartbeats 8000000 in
set_option maxRecDepth 100000 in
theorem rdLeftWrit_any {W : World} {t : Nat} {v u : Value} {D : DkS} {x : RcA} {S : CoS} {A : InS} (h : RdAt W t v u D) (hc : RcAt W x S A) (hI : ItOk D.I) (hB : Bk S.P) (hs : ∀ p ∈ S.P, smallOk p) (hl : S.P.length ≤ 100000) {o : Int} :
    Calls Tryz.prog 113 #[.pointer (some ⟨t, 0, none⟩), .pointer (some ⟨x.r, 0, none⟩), .int .i64 o, .int .i64 2] W fun e w' => e = .returned (.tuple #[.int .i64 (leftF D.I (bal S.P 1 o) o writS).1, .bool (leftF D.I (bal S.P 1 o) o writS).2]) ∧ Below W.heap.size W w' := by
  have HO := Own.start W
  have B := fun w' (hb : Below W.heap.size W w') => rcBal_any (hc.below hb) hs hl 1 o
  have hin := hB.bal_in 1 o
  have HI := Lib.hid hI
  obtain ⟨p, c, hv, hmx⟩ := h.row.slice
  rw [List.length_map] at hv hmx
  have HR := Lib.hid h.row
  have h0 := old_cell h.box 0 rfl
  have hlt := old_lt h.box
  have hmx' : (D.I.length : Int) ≤ 9223372036854775807 := by unfold maxLen at hmx; omega
  rw [hv] at h0
  generalize ha : v = av at *
  subst hv
  clear h ha hc hB hI hs
  generalize bal S.P 1 o = n0 at *
  generalize hg : leftF D.I n0 o writS = g0
  replace hg := Lib.hid hg
  replace hin := Lib.hid hin
  go_enter Tryz.func113, Tryz.ntmps113
  go_wp2_with ((go_at_call 95; go_must ((with_reducible refine (B _ HO.grown).mono ?_); rintro e w ⟨rfl, hb⟩; replace HO := HO.call hb; clear hb)))
  go_loopw [10, 11] (fun nv iv wr => ∃ (j : Nat) (n : Int), j ≤ D.I.length ∧ iv = .int .i64 (j : Int) ∧ nv = .int .i64 n ∧ leftF (D.I.take j) n0 o writS = (n, true) ∧ Own W wr []) (fun _ iv _ => D.I.length - (intOf iv).toNat)
  case atStart => exact ⟨0, n0, by omega, rfl, rfl, rfl, HO⟩
  case round =>
    clear HO
    obtain ⟨j, n, hj, rfl, rfl, hn, HO⟩ := hrel
    by_cases hjl : j < D.I.length
    · have hjI : (j : Int) < (D.I.length : Int) := by omega
      obtain ⟨b, rfl, hst⟩ := oldAt HR.out rfl hjl
      have hsn := leftF_take hjl n0 o writS
      have hin2 := leftF_in (D.I.take j) o writS hin.out
      have hsp := leftF_stop (I := D.I) (n := n0) (o := o) (f := writS) (j := j + 1)
      have hno := leftF_no (I := D.I.take (j + 1)) (o := o) (f := writS) hin.out
      rw [hn] at hsn hin2
      obtain ⟨h1, h2, h3, h4⟩ := HI.out _ (List.getElem_mem hjl)
      clear hn
      generalize D.I[j] = y at *
      obtain ⟨yb, yo, ya, ys⟩ := y
      unfold itemC at hst
      replace hst := Lib.hid hst
      simp only at h1 h2 h3 h4 hin2
      have SB := fun w => rSub_any hin2 h2 w
      clear h1 h2 h3 h4
      have hsn := Lib.hid hsn
      by_cases hz : yo = o
      · subst hz
        have hD : (yo != yo) = false := by simp
        cases hf : writS ys
        · have hf3 : ((ys == 3) = true) ∨ ((ys == 3) = false ∧ (ys != 2) = true) := by
            cases h3 : (ys == 3)
            · exact .inr ⟨rfl, by simpa [writS] using hf⟩
            · exact .inl rfl
          replace hf := Lib.hid hf
          clear SB hsp hno
          rcases hf3 with d3 | ⟨d3, d2⟩
          all_goals
            go_wp2_with (first | ((with_reducible apply wpList_loadOld1 HO); exact rfl; exact rfl; exact hlt; exact h0; infer_instance; exact rfl; (simp only [Act.put, zA, zB, zC])) | (((with_reducible apply wpList_loadOne HO); exact rfl; exact rfl; (repeat (with_reducible (exact At.head _))); exact rfl; infer_instance; exact rfl; (simp only [Act.put, zA, zB, zC]))) | ((with_reducible apply wpList_storeAll HO); exact rfl; exact rfl; exact rfl; (repeat (with_reducible (exact At.head _))); infer_instance; exact rfl; exact rfl; exact rfl; exact rfl; clear HO; intro w HO; (simp only [Act.put])) | (((with_reducible apply wpList_allocAgg _ HO rfl); exact rfl; infer_instance; exact rfl; clear HO; intro b12 w HO; (simp only [Act.put, zA, zB, zC]))) | ((with_reducible apply wpList_loadAt HO); exact rfl; exact rfl; exact (fun w' h1 => hst.out w' h1.grown); infer_instance; exact rfl; exact rfl; (simp only [Act.put, zA, zB, zC])))
            replace HO := HO.tail
            go_roundw
            case rel => exact ⟨j + 1, n, by omega, by go_num, rfl, by rw [hsn.out, leftStep_f (x := ⟨yb, yo, ya, ys⟩) rfl hf.out], HO⟩
            case measure => simp [intOf] <;> omega
        · have hf3 : (ys == 3) = false ∧ (ys != 2) = false := by
            have h9 : ys = 2 := by simpa [writS] using hf
            subst h9
            exact ⟨rfl, rfl⟩
          obtain ⟨d3, d2⟩ := hf3
          have hss := hsn.out
          rw [leftStep_t (x := ⟨yb, yo, ya, ys⟩) rfl hf] at hss
          replace hf := Lib.hid hf
          clear hsn
          cases hk : subI n ya with
          | mk r1 r2 =>
            rw [hk] at SB hss
            cases r2
            · have hE : g0 = (0, false) := by
                rw [← hg.out, hsp (by rw [hss]), hno (by rw [hss])]
              subst hE
              clear hsp hno hss hk
              go_wp2_with (first | ((with_reducible apply wpList_loadOld1 HO); exact rfl; exact rfl; exact hlt; exact h0; infer_instance; exact rfl; (simp only [Act.put, zA, zB, zC])) | (((with_reducible apply wpList_loadOne HO); exact rfl; exact rfl; (repeat (with_reducible (exact At.head _))); exact rfl; infer_instance; exact rfl; (simp only [Act.put, zA, zB, zC]))) | ((with_reducible apply wpList_storeAll HO); exact rfl; exact rfl; exact rfl; (repeat (with_reducible (exact At.head _))); infer_instance; exact rfl; exact rfl; exact rfl; exact rfl; clear HO; intro w HO; (simp only [Act.put])) | (((with_reducible apply wpList_allocAgg _ HO rfl); exact rfl; infer_instance; exact rfl; clear HO; intro b12 w HO; (simp only [Act.put, zA, zB, zC]))) | ((with_reducible apply wpList_loadAt HO); exact rfl; exact rfl; exact (fun w' h1 => hst.out w' h1.grown); infer_instance; exact rfl; exact rfl; (simp only [Act.put, zA, zB, zC])) | (go_at_call 116; go_must ((with_reducible refine (SB _).mono ?_); rintro e w ⟨rfl, hb⟩; replace HO := HO.call hb; clear hb)))
              go_ret2
              exact ⟨rfl, HO.grown⟩
            · have hss := Lib.hid hss
              clear hsp hno hk
              go_wp2_with (first | ((with_reducible apply wpList_loadOld1 HO); exact rfl; exact rfl; exact hlt; exact h0; infer_instance; exact rfl; (simp only [Act.put, zA, zB, zC])) | (((with_reducible apply wpList_loadOne HO); exact rfl; exact rfl; (repeat (with_reducible (exact At.head _))); exact rfl; infer_instance; exact rfl; (simp only [Act.put, zA, zB, zC]))) | ((with_reducible apply wpList_storeAll HO); exact rfl; exact rfl; exact rfl; (repeat (with_reducible (exact At.head _))); infer_instance; exact rfl; exact rfl; exact rfl; exact rfl; clear HO; intro w HO; (simp only [Act.put])) | (((with_reducible apply wpList_allocAgg _ HO rfl); exact rfl; infer_instance; exact rfl; clear HO; intro b12 w HO; (simp only [Act.put, zA, zB, zC]))) | ((with_reducible apply wpList_loadAt HO); exact rfl; exact rfl; exact (fun w' h1 => hst.out w' h1.grown); infer_instance; exact rfl; exact rfl; (simp only [Act.put, zA, zB, zC])) | (go_at_call 116; go_must ((with_reducible refine (SB _).mono ?_); rintro e w ⟨rfl, hb⟩; replace HO := HO.call hb; clear hb)))
              replace HO := HO.tail
              go_roundw
              case rel => exact ⟨j + 1, r1, by omega, by go_num, rfl, hss.out, HO⟩
              case measure => simp [intOf] <;> omega
      · have hD : (yo != o) = true := by rw [bne_iff_ne]; exact hz
        clear SB hsp hno
        go_wp2_with (first | go_big_skip | ((with_reducible apply wpList_loadOld1 HO); exact rfl; exact rfl; exact hlt; exact h0; infer_instance; exact rfl; (simp only [Act.put, zA, zB, zC])) | (((with_reducible apply wpList_loadOne HO); exact rfl; exact rfl; (repeat (with_reducible (exact At.head _))); exact rfl; infer_instance; exact rfl; (simp only [Act.put, zA, zB, zC]))) | ((with_reducible apply wpList_storeAll HO); exact rfl; exact rfl; exact rfl; (repeat (with_reducible (exact At.head _))); infer_instance; exact rfl; exact rfl; exact rfl; exact rfl; clear HO; intro w HO; (simp only [Act.put])) | (((with_reducible apply wpList_allocAgg _ HO rfl); exact rfl; infer_instance; exact rfl; clear HO; intro b12 w HO; (simp only [Act.put, zA, zB, zC]))) | ((with_reducible apply wpList_loadAt HO); exact rfl; exact rfl; exact (fun w' h1 => hst.out w' h1.grown); infer_instance; exact rfl; exact rfl; (simp only [Act.put, zA, zB, zC])))
        replace HO := HO.tail
        go_roundw
        case rel => exact ⟨j + 1, n, by omega, by go_num, rfl, by rw [hsn.out, leftStep_other (x := ⟨yb, yo, ya, ys⟩) hz], HO⟩
        case measure => simp [intOf] <;> omega
    · obtain rfl : j = D.I.length := by omega
      rw [List.take_length, hg.out] at hn
      subst hn
      have hjI : ¬ ((D.I.length : Int) < (D.I.length : Int)) := by omega
      go_wp2_with (((with_reducible apply wpList_loadOld1 HO); exact rfl; exact rfl; exact hlt; exact h0; infer_instance; exact rfl; (simp only [Act.put, zA, zB, zC])))
      go_ret2
      exact ⟨rfl, HO.grown⟩
end Go.Proofs.YtibabfedpdoofaaGreatDoor
namespace Go.Proofs.YtibabfedpdoofaaGreatDoor
open Go.RowKit Go.Own Go.Maps

set_option maxHeartbeats 4000000 in
set_option maxRecDepth 100000 in
theorem dkNew_any (W : World) : Calls Tryz.prog 40 #[] W fun e w' => ∃ x : DkA, e = .returned (.pointer (some ⟨x.t, 0, none⟩)) ∧ Own W w' (dkPs x ⟨[], []⟩) := by
  have HO := Own.start W
  go_enter Tryz.func40, Tryz.ntmps40
  go_wp2_with (first | (go_at_call 78; go_must ((with_reducible refine (bkNew_any _).mono ?_); rintro e w ⟨b, pm, bm, rfl, HO1⟩; replace HO := HO.lift HO1; clear HO1; simp only [List.cons_append, List.nil_append] at HO)) | (((with_reducible apply wpList_boxAgg _ HO rfl); exact rfl; exact rfl; exact rfl; clear HO; intro b1 w HO; (simp only [Act.put, zA, zB, zC]))))
  go_ret
  exact ⟨⟨b1, .slice none 0 0, b, .slice none 0 0, pm, bm⟩, rfl, (HO.nil 82 4).swap⟩

set_option maxHeartbeats 4000000 in
theorem dkMany_any {w : World} {x : DkA} {D : DkS} (h : DkAt w x D) : Calls Tryz.prog 43 #[.pointer (some ⟨x.t, 0, none⟩)] w fun e w' => e = .returned (.int .i64 (D.I.length : Int)) ∧ Below w.heap.size w w' := by
  have HO := Own.start w
  have N := fun w' (hb : Below w.heap.size w w') => dkNone_any (h.below hb)
  obtain ⟨p, c, hv, hmx⟩ := h.row.slice
  rw [List.length_map] at hv
  have h0 := old_cell h.box 0 rfl
  have hlt := old_lt h.box
  rw [hv] at h0
  clear h
  go_enter Tryz.func43, Tryz.ntmps43
  go_wp2_with (first | ((with_reducible apply wpList_loadOld1 HO); exact rfl; exact rfl; exact hlt; exact h0; infer_instance; exact rfl; (simp only [Act.put, zA, zB, zC])) | (go_at_call 101; go_must ((with_reducible refine (N _ HO.grown).mono ?_); rintro e w ⟨rfl, hb⟩; replace HO := HO.call hb; clear hb)))
  go_ret
  exact ⟨rfl, HO.grown⟩
set_option maxHeartbeats 4000000 in
theorem dkBooks_any {W : World} {x : DkA} {D : DkS} (h : DkAt W x D) (hlen : D.P.length ≤ 100000) : Calls Tryz.prog 48 #[.pointer (some ⟨x.t, 0, none⟩)] W fun e w' => ∃ b' v' pm' bm', e = .returned (.pointer (some ⟨b', 0, none⟩)) ∧ Own W w' [bkE b' v' pm' bm' D.P] := by
  have HO := Own.start W
  have N := fun w' (hb : Below W.heap.size W w') => dkNone_any (h.below hb)
  have C := fun w' (hb : Below W.heap.size W w') => bkCopy_any (h.below hb).bk hlen
  have h1 := old_cell h.box 1 rfl
  have hlt := old_lt h.box
  clear h
  go_enter Tryz.func48, Tryz.ntmps48
  go_wp2_with (first | ((with_reducible apply wpList_loadOld1 HO); exact rfl; exact rfl; exact hlt; exact h1; infer_instance; exact rfl; (simp only [Act.put, zA, zB, zC])) | (go_at_call 101; go_must ((with_reducible refine (N _ HO.grown).mono ?_); rintro e w ⟨rfl, hb⟩; replace HO := HO.call hb; clear hb)) | (go_at_call 97; go_must ((with_reducible refine (C _ HO.grown).mono ?_); rintro e w ⟨b2, v2, pm2, bm2, rfl, HO1⟩; replace HO := HO.lift HO1; clear HO1; simp only [List.cons_append, List.nil_append] at HO)))
  go_ret
  exact ⟨_, _, _, _, rfl, HO⟩
def noItem : Value := .agg #[.string ⟨#[]⟩, .int .i64 0, .int .i64 0, .int .i64 0]
def itemV (x : ItemS) : Value := .agg #[.string ⟨x.b.toArray⟩, .int .i64 x.o, .int .i64 x.a, .int .i64 x.s]
def itemR (x : Option ItemS) : Value := match x with
  | some x => .tuple #[itemV x, .bool true]
  | none => .tuple #[noItem, .bool false]

set_option maxHeartbeats 8000000 in
set_option maxRecDepth 100000 in
theorem dkItem_any {w : World} {x : DkA} {D : DkS} (h : DkAt w x D) {n : Int} (hi : inI n = true) : Calls Tryz.prog 46 #[.pointer (some ⟨x.t, 0, none⟩), .int .i64 n] w fun e w' => e = .returned (itemR (itemAt D.I n)) ∧ Below w.heap.size w w' := by
  have HO := Own.start w
  have N := fun w' (hb : Below w.heap.size w w') => dkNone_any (h.below hb)
  obtain ⟨p, c, hv, hmx⟩ := h.row.slice
  rw [List.length_map] at hv hmx
  have HR := Lib.hid h.row
  have h0 := old_cell h.box 0 rfl
  have hlt := old_lt h.box
  have hmx' : (D.I.length : Int) ≤ 9223372036854775807 := by unfold maxLen at hmx; omega
  have hi := inI_iff.1 hi
  rw [hv] at h0
  generalize ha : x.v = av at *
  subst hv
  clear h ha
  by_cases h1 : n < 1 ∨ (D.I.length : Int) < n
  · have HE := Lib.hid (itemAt_no h1)
    generalize itemAt D.I n = y at *
    obtain rfl := HE.out
    clear HE HR
    by_cases h2 : n < 1
    · clear h1
      go_enter Tryz.func46, Tryz.ntmps46
      go_wp2_with (first | ((with_reducible apply wpList_storeAll HO); exact rfl; exact rfl; exact rfl; (repeat (with_reducible (exact At.head _))); infer_instance; exact rfl; exact rfl; exact rfl; exact rfl; clear HO; intro w HO; (simp only [Act.put])) | (((with_reducible apply wpList_allocAgg _ HO rfl); exact rfl; infer_instance; exact rfl; clear HO; intro b3 w HO; (simp only [Act.put, zA, zB, zC]))) | (go_at_call 101; go_must ((with_reducible refine (N _ HO.grown).mono ?_); rintro e w ⟨rfl, hb⟩; replace HO := HO.call hb; clear hb)))
      refine bodyPost_ret (results_box HO rfl rfl (by (repeat (with_reducible (exact At.head _)))) inferInstance rfl rfl) rfl ?_
      exact ⟨rfl, HO.grown⟩
    · have h3 : (D.I.length : Int) < n := by omega
      clear h1
      go_enter Tryz.func46, Tryz.ntmps46
      go_wp2_with (first | ((with_reducible apply wpList_loadOld1 HO); exact rfl; exact rfl; exact hlt; exact h0; infer_instance; exact rfl; (simp only [Act.put, zA, zB, zC])) | ((with_reducible apply wpList_storeAll HO); exact rfl; exact rfl; exact rfl; (repeat (with_reducible (exact At.head _))); infer_instance; exact rfl; exact rfl; exact rfl; exact rfl; clear HO; intro w HO; (simp only [Act.put])) | (((with_reducible apply wpList_allocAgg _ HO rfl); exact rfl; infer_instance; exact rfl; clear HO; intro b3 w HO; (simp only [Act.put, zA, zB, zC]))) | (go_at_call 101; go_must ((with_reducible refine (N _ HO.grown).mono ?_); rintro e w ⟨rfl, hb⟩; replace HO := HO.call hb; clear hb)))
      refine bodyPost_ret (results_box HO rfl rfl (by (repeat (with_reducible (exact At.head _)))) inferInstance rfl rfl) rfl ?_
      exact ⟨rfl, HO.grown⟩
  · obtain ⟨j, hid⟩ : ∃ j : Nat, n = (j : Int) + 1 := ⟨(n - 1).toNat, by omega⟩
    have hj : j < D.I.length := by omega
    have hjI : (j : Int) < (D.I.length : Int) := by omega
    have n1 : ¬ (n < 1) := by omega
    have n2 : ¬ ((D.I.length : Int) < n) := by omega
    have e1 : IntKind.i64.wrap (n - 1) = (j : Int) := by rw [wrap_in (inI_iff.2 (by omega))]; omega
    have HE := Lib.hid (itemAt_yes (I := D.I) hid hj)
    obtain ⟨b, rfl, hst⟩ := oldAt HR.out rfl hj
    generalize itemAt D.I n = y at *
    generalize D.I[j] = z at *
    generalize D.I.length = m at *
    obtain rfl := HE.out
    obtain ⟨zb, zo, za, zs⟩ := z
    unfold itemC at hst
    replace hst := Lib.hid hst
    clear HE HR h1 hid
    go_enter Tryz.func46, Tryz.ntmps46
    go_wp2_with (first | ((with_reducible apply wpList_loadOld1 HO); exact rfl; exact rfl; exact hlt; exact h0; infer_instance; exact rfl; (simp only [Act.put, zA, zB, zC])) | ((with_reducible apply wpList_loadAt HO); exact rfl; exact rfl; exact (fun w' h1 => hst.out w' h1.grown); infer_instance; exact rfl; exact rfl; (simp only [Act.put, zA, zB, zC])) | ((with_reducible apply wpList_storeAll HO); exact rfl; exact rfl; exact rfl; (repeat (with_reducible (exact At.head _))); infer_instance; exact rfl; exact rfl; exact rfl; exact rfl; clear HO; intro w HO; (simp only [Act.put])) | (((with_reducible apply wpList_allocAgg _ HO rfl); exact rfl; infer_instance; exact rfl; clear HO; intro b3 w HO; (simp only [Act.put, zA, zB, zC]))) | (go_at_call 101; go_must ((with_reducible refine (N _ HO.grown).mono ?_); rintro e w ⟨rfl, hb⟩; replace HO := HO.call hb; clear hb)))
    refine bodyPost_ret (results_box HO rfl rfl (by (repeat (with_reducible (exact At.head _)))) inferInstance rfl rfl) rfl ?_
    exact ⟨rfl, HO.grown⟩
theorem pend_who {I : List ItemS} {b : List UInt8} {n : Int} (h : whoB b = false) : pendE I b n = 2 := by unfold pendE; rw [if_neg (by rw [h]; simp)]
theorem pend_none {I : List ItemS} {b : List UInt8} {n : Int} (h : whoB b = true) (h1 : n < 1 ∨ (I.length : Int) < n) : pendE I b n = 4 := by unfold pendE; rw [if_pos h, itemAt_no h1]
theorem pend_at {I : List ItemS} {b : List UInt8} {n : Int} {j : Nat} (h : whoB b = true) (h1 : n = (j : Int) + 1) (hj : j < I.length) : pendE I b n = if I[j].s = 1 then 0 else 92 := by unfold pendE; rw [if_pos h, itemAt_yes h1 hj]

set_option maxHeartbeats 8000000 in
set_option maxRecDepth 100000 in
theorem dkPend_any {W : World} {x : DkA} {D : DkS} (h : DkAt W x D) {b : List UInt8} (hb : b.length ≤ maxLen) {n : Int} (hi : inI n = true) : Calls Tryz.prog 107 #[.pointer (some ⟨x.t, 0, none⟩), .string ⟨b.toArray⟩, .int .i64 n] W fun e w' => e = .returned (.int .i64 (pendE D.I b n)) ∧ Below W.heap.size W w' := by
  have HO := Own.start W
  have N := fun w' (hb : Below W.heap.size W w') => dkNone_any (h.below hb)
  have WH := fun w => who_any b hb w
  obtain ⟨p, c, hv, hmx⟩ := h.row.slice
  rw [List.length_map] at hv hmx
  have HR := Lib.hid h.row
  have h0 := old_cell h.box 0 rfl
  have hlt := old_lt h.box
  have hmx' : (D.I.length : Int) ≤ 9223372036854775807 := by unfold maxLen at hmx; omega
  have hi := inI_iff.1 hi
  rw [hv] at h0
  generalize ha : x.v = av at *
  subst hv
  clear h ha hb
  cases hw : whoB b
  · rw [pend_who hw]
    rw [hw] at WH
    clear hw HR
    go_enter Tryz.func107, Tryz.ntmps107
    go_wp2_with (first | (go_at_call 101; go_must ((with_reducible refine (N _ HO.grown).mono ?_); rintro e w ⟨rfl, hb⟩; replace HO := HO.call hb; clear hb)) | (go_at_call 104; go_must ((with_reducible refine (WH _).mono ?_); rintro e w ⟨rfl, hb⟩; replace HO := HO.call hb; clear hb)))
    go_ret
    exact ⟨rfl, HO.grown⟩
  rw [hw] at WH
  by_cases h1 : n < 1 ∨ (D.I.length : Int) < n
  · rw [pend_none hw h1]
    clear hw HR
    by_cases h2 : n < 1
    · have d2 : decide (n < 1) = true := decide_eq_true h2
      clear h1
      go_enter Tryz.func107, Tryz.ntmps107
      go_wp2_with (first | (go_at_call 101; go_must ((with_reducible refine (N _ HO.grown).mono ?_); rintro e w ⟨rfl, hb⟩; replace HO := HO.call hb; clear hb)) | (go_at_call 104; go_must ((with_reducible refine (WH _).mono ?_); rintro e w ⟨rfl, hb⟩; replace HO := HO.call hb; clear hb)))
      go_ret
      exact ⟨rfl, HO.grown⟩
    · have h3 : (D.I.length : Int) < n := by omega
      have d2 : decide (n < 1) = false := decide_eq_false h2
      have d3 : decide ((D.I.length : Int) < n) = true := decide_eq_true h3
      clear h1
      go_enter Tryz.func107, Tryz.ntmps107
      go_wp2_with (first | ((with_reducible apply wpList_loadOld1 HO); exact rfl; exact rfl; exact hlt; exact h0; infer_instance; exact rfl; (simp only [Act.put, zA, zB, zC])) | (go_at_call 101; go_must ((with_reducible refine (N _ HO.grown).mono ?_); rintro e w ⟨rfl, hb⟩; replace HO := HO.call hb; clear hb)) | (go_at_call 104; go_must ((with_reducible refine (WH _).mono ?_); rintro e w ⟨rfl, hb⟩; replace HO := HO.call hb; clear hb)))
      go_ret
      exact ⟨rfl, HO.grown⟩
  · obtain ⟨j, hid⟩ : ∃ j : Nat, n = (j : Int) + 1 := ⟨(n - 1).toNat, by omega⟩
    have hj : j < D.I.length := by omega
    rw [pend_at hw hid hj]
    have hjI : (j : Int) < (D.I.length : Int) := by omega
    have n1 : ¬ (n < 1) := by omega
    have n2 : ¬ ((D.I.length : Int) < n) := by omega
    have d2 : decide (n < 1) = false := decide_eq_false n1
    have d3 : decide ((D.I.length : Int) < n) = false := decide_eq_false n2
    have e1 : IntKind.i64.wrap (n - 1) = (j : Int) := by rw [wrap_in (inI_iff.2 (by omega))]; omega
    obtain ⟨q, rfl, hst⟩ := oldAt HR.out rfl hj
    generalize D.I[j] = z at *
    generalize D.I.length = m at *
    obtain ⟨zb, zo, za, zs⟩ := z
    have h3 := Lib.hid (fun w' h => hst w' h 3 (.int .i64 zs) rfl)
    clear hst HR h1 hid hw
    by_cases hz : zs = 1
    · subst hz
      rw [if_pos rfl]
      go_enter Tryz.func107, Tryz.ntmps107
      go_wp2_with (first | ((with_reducible apply wpList_loadOld1 HO); exact rfl; exact rfl; exact hlt; exact h0; infer_instance; exact rfl; (simp only [Act.put, zA, zB, zC])) | ((with_reducible apply wpList_loadAt1 HO); exact rfl; exact rfl; exact (fun w' h1 => h3.out w' h1.grown); infer_instance; exact rfl; (simp only [Act.put, zA, zB, zC])) | (go_at_call 101; go_must ((with_reducible refine (N _ HO.grown).mono ?_); rintro e w ⟨rfl, hb⟩; replace HO := HO.call hb; clear hb)) | (go_at_call 104; go_must ((with_reducible refine (WH _).mono ?_); rintro e w ⟨rfl, hb⟩; replace HO := HO.call hb; clear hb)))
      go_ret
      exact ⟨rfl, HO.grown⟩
    · have hd : (zs != 1) = true := by simpa using hz
      rw [if_neg hz]
      clear hz
      go_enter Tryz.func107, Tryz.ntmps107
      go_wp2_with (first | ((with_reducible apply wpList_loadOld1 HO); exact rfl; exact rfl; exact hlt; exact h0; infer_instance; exact rfl; (simp only [Act.put, zA, zB, zC])) | ((with_reducible apply wpList_loadAt1 HO); exact rfl; exact rfl; exact (fun w' h1 => h3.out w' h1.grown); infer_instance; exact rfl; (simp only [Act.put, zA, zB, zC])) | (go_at_call 101; go_must ((with_reducible refine (N _ HO.grown).mono ?_); rintro e w ⟨rfl, hb⟩; replace HO := HO.call hb; clear hb)) | (go_at_call 104; go_must ((with_reducible refine (WH _).mono ?_); rintro e w ⟨rfl, hb⟩; replace HO := HO.call hb; clear hb)))
      go_ret
      exact ⟨rfl, HO.grown⟩
end Go.Proofs.YtibabfedpdoofaaGreatDoor
namespace Go.Proofs.YtibabfedpdoofaaGreatDoor
open Go.RowKit Go.Own Go.Maps

theorem isL_cell8 {w : World} {k n c : Nat} {q : Addr} {L : List (List Value)} (h : IsL w k (.slice (some q) n c) L) {j : Nat} (hj : j < L.length) : ∀ i u, L[j][i]? = some u → w.cell? ((q.add (j * k)).add i) = some u := by
  obtain ⟨b, cap, hb, _, _, hR⟩ := h.at (by omega)
  cases hb
  exact fun i u hu => hR.c j hj i u hu
theorem run_item_neq (x : ItemS) (w : World) : (binOp .neq 111 (.agg #[.string ⟨x.b.toArray⟩, .int .i64 x.o, .int .i64 x.a, .int .i64 x.s]) (.agg #[.string ⟨x.b.toArray⟩, .int .i64 x.o, .int .i64 x.a, .int .i64 x.s])).run Tryz.prog w = .ok (.bool false) w := by
  obtain ⟨b, o, a, s⟩ := x
  go_simp
  try simp
theorem run_none_neq (w : World) : (binOp .neq 82 (.agg #[.string ⟨#[]⟩, .int .i64 0, .int .i64 0, .int .i64 0]) (.agg #[.string ⟨#[]⟩, .int .i64 0, .int .i64 0, .int .i64 0])).run Tryz.prog w = .ok (.bool false) w := by
  go_simp
  try simp

set_option maxHeartbeats 16000000 in
set_option maxRecDepth 100000 in
theorem alike_any {W : World} {x : DkA} {t : Nat} {v u : Value} {D : DkS} (h : DkAt W x D) (h2 : RdAt W t v u D) (_hI : ItOk D.I) (hlen : D.I.length ≤ 1000) (hlp : D.P.length ≤ 1000) (a : Int) (ok : Bool) :
    Calls Tryz.prog 57 #[.pointer (some ⟨x.t, 0, none⟩), .pointer (some ⟨t, 0, none⟩), .int .i64 a, .int .i64 a, .bool ok, .bool ok] W fun e w' => e = .returned (.bool true) ∧ Below W.heap.size W w' := by
  have HO := Own.start W
  have MN := Lib.hid (fun w' (hb : Below W.heap.size W w') => dkMany_any (h.below hb))
  have IT := Lib.hid (fun w' (hb : Below W.heap.size W w') (n : Int) (hn : inI n = true) => dkItem_any (h.below hb) hn)
  have BK := Lib.hid (fun w' (hb : Below W.heap.size W w') => dkBooks_any (h.below hb) (by omega))
  obtain ⟨p, c, hv, hmx⟩ := h2.row.slice
  obtain ⟨p5, c5, hv5, hmx5⟩ := h2.ps.slice
  rw [List.length_map] at hv hmx hv5 hmx5
  have HR := Lib.hid h2.row
  have H5 := Lib.hid h2.ps
  have h0 := old_cell h2.box 0 rfl
  have h1 := old_cell h2.box 1 rfl
  have hlt := old_lt h2.box
  have hlI : (D.I.length : Int) ≤ 1000 := by omega
  rw [hv] at h0 HR
  rw [hv5] at h1 H5
  have hq := fun x w => run_item_neq x w
  have hqn := fun w => run_none_neq w
  clear h h2 hv hv5
  have d1 : ((D.I.length : Int) != (D.I.length : Int)) = false := by simp
  go_enter Tryz.func57, Tryz.ntmps57
  go_upto_region 1 with (fail)
  refine region_own HO (by kernel_rfl) (by kernel_rfl) ?_
  clear HO
  intro F HF
  repeat (first | (((with_reducible apply wpQuiet_loadOld1 HF); exact rfl; exact rfl; exact hlt; exact h0; infer_instance; exact rfl; (simp only [Act.put, zA, zB, zC]))) | go_big_quiet_step ((go_at_call 43; (with_reducible exact calls_fam HF (MN.out _ (Own.grown (HF.own _)))))))
  refine wpQuiet_nil ?_
  intro x
  have HO := HF.own x
  clear HF
  generalize F x = w at *
  clear x F
  go_wp2_with (fail)
  go_loopw [13] (fun nv wr => ∃ k : Nat, k ≤ D.I.length + 2 ∧ nv = .int .i64 (k : Int) ∧ Own W wr []) (fun nv _ => D.I.length + 3 - (intOf nv).toNat)
  case atStart => exact ⟨0, by omega, rfl, HO⟩
  case round =>
    clear HO
    obtain ⟨k, hk, rfl, HO⟩ := hrel
    by_cases hk2 : k < D.I.length + 2
    · have hkI : (k : Int) ≤ (D.I.length : Int) + 1 := by omega
      have ITk := fun w' hb => IT.out w' hb (k : Int) (inI_iff.2 (by omega))
      by_cases hin : 1 ≤ k ∧ k ≤ D.I.length
      · obtain ⟨j, hkj⟩ : ∃ j, k = j + 1 := ⟨k - 1, by omega⟩
        have hj : j < D.I.length := by omega
        rw [itemAt_yes (I := D.I) (n := (k : Int)) (j := j) (by omega) hj] at ITk
        have e1 : IntKind.i64.wrap ((k : Int) - 1) = (j : Int) := by rw [show (k : Int) - 1 = (j : Int) by omega, wrap_in (inI_iff.2 (by omega))]
        obtain ⟨q, hq9, hst⟩ := oldAt HR.out rfl hj
        subst hq9
        have hqk := hq D.I[j]
        have g1 : decide ((1 : Int) ≤ (k : Int)) = true := decide_eq_true (by omega)
        have g2 : decide (k ≤ D.I.length) = true := decide_eq_true (by omega)
        have hjI : (j : Int) < (D.I.length : Int) := by omega
        clear hkj
        generalize D.I[j] = z at *
        obtain ⟨zb, zo, za, zs⟩ := z
        simp only [itemR, itemV] at ITk
        simp only [itemC] at hst
        simp only at hqk
        replace hst := Lib.hid hst
        clear hin hk2
        go_upto_region 8 with (first | ((with_reducible apply wpList_storeAll HO); exact rfl; exact rfl; exact rfl; (repeat (with_reducible (exact At.head _))); infer_instance; exact rfl; exact rfl; exact rfl; exact rfl; clear HO; intro w HO; (simp only [Act.put])) | (((with_reducible apply wpList_allocAgg _ HO rfl); exact rfl; infer_instance; exact rfl; clear HO; intro b14 w HO; (simp only [Act.put, zA, zB, zC]))) | ((with_reducible apply wpList_loadOld1 HO); exact rfl; exact rfl; exact hlt; exact h0; infer_instance; exact rfl; (simp only [Act.put, zA, zB, zC])) | (go_at_call 46; go_must ((with_reducible refine (ITk _ HO.grown).mono ?_); rintro e w ⟨rfl, hb⟩; replace HO := HO.call hb; clear hb)))
        refine region_own HO (by kernel_rfl) (by kernel_rfl) ?_
        clear HO
        intro F HF
        repeat (first | (first | (first | go_big_quiet_skip | ((with_reducible apply wpQuiet_loadAll HF); exact rfl; exact rfl; (repeat (with_reducible (first | exact At.head _ | apply At.tail))); infer_instance; exact rfl; exact rfl; (simp only [Act.put, zA, zB, zC]))) | ((with_reducible apply wpQuiet_loadOld1 HF); exact rfl; exact rfl; exact hlt; exact h0; infer_instance; exact rfl; (simp only [Act.put, zA, zB, zC])) | ((with_reducible apply wpQuiet_loadAt HF); exact rfl; exact rfl; exact (fun w' h1 => hst.out w' h1.grown); infer_instance; exact rfl; exact rfl; (simp only [Act.put, zA, zB, zC]))) | go_big_quiet_step (fail))
        refine wpQuiet_nil ?_
        intro x
        have HO := HF.own x
        clear HF
        generalize F x = w at *
        clear x F
        go_wp2_with (fail)
        replace HO := HO.tail
        go_roundw
        case rel => exact ⟨k + 1, by omega, by go_num, HO⟩
        case measure => simp [intOf] <;> omega
      · have hn : (k : Int) < 1 ∨ (D.I.length : Int) < (k : Int) := by omega
        rw [itemAt_no hn] at ITk
        simp only [itemR, noItem] at ITk
        by_cases h1 : k = 0
        · have g1 : decide ((1 : Int) ≤ (k : Int)) = false := decide_eq_false (by omega)
          clear hin hk2 hn h1
          go_upto_region 8 with (first | go_big_skip | ((with_reducible apply wpList_storeAll HO); exact rfl; exact rfl; exact rfl; (repeat (with_reducible (exact At.head _))); infer_instance; exact rfl; exact rfl; exact rfl; exact rfl; clear HO; intro w HO; (simp only [Act.put])) | (((with_reducible apply wpList_allocAgg _ HO rfl); exact rfl; infer_instance; exact rfl; clear HO; intro b14 w HO; (simp only [Act.put, zA, zB, zC]))) | ((with_reducible apply wpList_loadOld1 HO); exact rfl; exact rfl; exact hlt; exact h0; infer_instance; exact rfl; (simp only [Act.put, zA, zB, zC])) | (go_at_call 46; go_must ((with_reducible refine (ITk _ HO.grown).mono ?_); rintro e w ⟨rfl, hb⟩; replace HO := HO.call hb; clear hb)))
          refine region_own HO (by kernel_rfl) (by kernel_rfl) ?_
          clear HO
          intro F HF
          repeat (first | ((first | go_big_quiet_skip | ((with_reducible apply wpQuiet_loadAll HF); exact rfl; exact rfl; (repeat (with_reducible (exact At.head _))); infer_instance; exact rfl; exact rfl; (simp only [Act.put, zA, zB, zC])))) | go_big_quiet_step (fail))
          refine wpQuiet_nil ?_
          intro x
          have HO := HF.own x
          clear HF
          generalize F x = w at *
          clear x F
          go_wp2_with (fail)
          replace HO := HO.tail
          go_roundw
          case rel => exact ⟨k + 1, by omega, by go_num, HO⟩
          case measure => simp [intOf] <;> omega
        · have g1 : decide ((1 : Int) ≤ (k : Int)) = true := decide_eq_true (by omega)
          have g2 : decide (k ≤ D.I.length) = false := decide_eq_false (by omega)
          clear hin hk2 hn h1
          go_upto_region 8 with (first | ((with_reducible apply wpList_storeAll HO); exact rfl; exact rfl; exact rfl; (repeat (with_reducible (exact At.head _))); infer_instance; exact rfl; exact rfl; exact rfl; exact rfl; clear HO; intro w HO; (simp only [Act.put])) | (((with_reducible apply wpList_allocAgg _ HO rfl); exact rfl; infer_instance; exact rfl; clear HO; intro b14 w HO; (simp only [Act.put, zA, zB, zC]))) | ((with_reducible apply wpList_loadOld1 HO); exact rfl; exact rfl; exact hlt; exact h0; infer_instance; exact rfl; (simp only [Act.put, zA, zB, zC])) | (go_at_call 46; go_must ((with_reducible refine (ITk _ HO.grown).mono ?_); rintro e w ⟨rfl, hb⟩; replace HO := HO.call hb; clear hb)))
          refine region_own HO (by kernel_rfl) (by kernel_rfl) ?_
          clear HO
          intro F HF
          repeat (first | ((first | go_big_quiet_skip | ((with_reducible apply wpQuiet_loadAll HF); exact rfl; exact rfl; (repeat (with_reducible (exact At.head _))); infer_instance; exact rfl; exact rfl; (simp only [Act.put, zA, zB, zC])))) | go_big_quiet_step (fail))
          refine wpQuiet_nil ?_
          intro x
          have HO := HF.own x
          clear HF
          generalize F x = w at *
          clear x F
          go_wp2_with (fail)
          replace HO := HO.tail
          go_roundw
          case rel => exact ⟨k + 1, by omega, by go_num, HO⟩
          case measure => simp [intOf] <;> omega
    · have hkI : ¬ ((k : Int) ≤ (D.I.length : Int) + 1) := by omega
      clear hq hqn IT MN
      go_upto_region 11 with (first | ((with_reducible apply wpList_loadOld1 HO); exact rfl; exact rfl; exact hlt; exact h0; infer_instance; exact rfl; (simp only [Act.put, zA, zB, zC])) | (go_at_call 48; go_must ((have h9 := BK.out _ HO.grown); (with_reducible refine h9.mono ?_); clear h9; rintro e w ⟨b2, v2, p2, m2, rfl, HO1⟩; replace HO := HO.lift HO1; clear HO1; simp only [List.cons_append, List.nil_append] at HO)) | (go_at_call 119; go_must ((have h9 := bkList_any (Own.bkAt HO (.head _)) (by omega)); (with_reducible refine h9.mono ?_); clear h9; rintro e w ⟨v7, rfl, HO1⟩; replace HO := HO.lift HO1; clear HO1; simp only [List.cons_append, List.nil_append] at HO)))
      obtain ⟨⟨p7, c7, hv7⟩, hs7⟩ := HO.rowForm (t := 187) (k := 5) (v := v7) (by (repeat (with_reducible (exact At.head _))))
      rw [List.length_map] at hv7 hs7
      subst hv7
      generalize hbk : bkE b2 v2 p2 m2 D.P = BE at *
      replace hbk := Lib.hid hbk
      have hEq := Lib.hid (fun p w => run_pst_neq p p w)
      have RL := Lib.hid (fun (w' : World) (h : Own W w' [row 187 5 (.slice p7 D.P.length c7) (D.P.map pstC), BE]) => isL_of_owns (pstC_len D.P) (h.has _ (.head _)))
      have hlP : (D.P.length : Int) ≤ 1000 := by omega
      clear hs7 hbk HR h0 BK
      go_wp2_with (((with_reducible apply wpList_loadOld1 HO); exact rfl; exact rfl; exact hlt; exact h1; infer_instance; exact rfl; (simp only [Act.put, zA, zB, zC])))
      go_loopw [18] (fun nv wr => ∃ j : Nat, j ≤ D.P.length ∧ nv = .int .i64 (j : Int) ∧ Own W wr [row 187 5 (.slice p7 D.P.length c7) (D.P.map pstC), BE]) (fun nv _ => D.P.length - (intOf nv).toNat)
      case atStart => exact ⟨0, by omega, rfl, HO⟩
      case round =>
        clear HO
        obtain ⟨j, hj, rfl, HO⟩ := hrel
        by_cases hjl : j < D.P.length
        · have hjP : (j : Int) < (D.P.length : Int) := by omega
          obtain ⟨q, hq9, hst⟩ := oldAt H5.out rfl hjl
          subst hq9
          obtain ⟨q7, hq7⟩ : ∃ q7, p7 = some q7 := by
            obtain ⟨b, cap, hb, _⟩ := (RL.out _ HO).at (by rw [List.length_map]; omega)
            simp only [Value.slice.injEq] at hb
            exact ⟨_, hb.1⟩
          subst hq7
          have RW := fun (w' : World) (h : Own W w' [row 187 5 (.slice (some q7) D.P.length c7) (D.P.map pstC), BE]) => isL_cell8 (RL.out w' h) (j := j) (by simpa using hjl)
          simp only [List.getElem_map] at RW
          have hqk := fun w => hEq.out D.P[j] w
          generalize D.P[j] = z at *
          obtain ⟨zi, zo, zd, zc, za⟩ := z
          simp only [pstC] at hst RW hqk
          simp only [decide_true, Bool.not_true] at hqk
          replace hst := Lib.hid hst
          replace RW := Lib.hid RW
          go_upto_region 16 with (fail)
          refine region_own HO (by kernel_rfl) (by kernel_rfl) ?_
          clear HO
          intro F HF
          repeat (first | (first | ((with_reducible apply wpQuiet_loadOld1 HF); exact rfl; exact rfl; exact hlt; exact h1; infer_instance; exact rfl; (simp only [Act.put, zA, zB, zC])) | ((with_reducible apply wpQuiet_loadAt HF); exact rfl; exact rfl; exact (fun w' h9 => hst.out w' h9.grown); infer_instance; exact rfl; exact rfl; (simp only [Act.put, zA, zB, zC])) | ((with_reducible apply wpQuiet_loadAt HF); exact rfl; exact rfl; exact (fun w' h9 => RW.out w' h9); infer_instance; exact rfl; exact rfl; (simp only [Act.put, zA, zB, zC]))) | go_big_quiet_step (fail))
          refine wpQuiet_nil ?_
          intro x
          have HO := HF.own x
          clear HF
          generalize F x = w at *
          clear x F
          go_wp2_with (fail)
          go_roundw
          case rel => exact ⟨j + 1, by omega, by go_num, HO⟩
          case measure => simp [intOf] <;> omega
        · have hjP : ¬ ((j : Int) < (D.P.length : Int)) := by omega
          go_wp2_with (fail)
          go_ret
          exact ⟨rfl, HO.grown⟩
end Go.Proofs.YtibabfedpdoofaaGreatDoor

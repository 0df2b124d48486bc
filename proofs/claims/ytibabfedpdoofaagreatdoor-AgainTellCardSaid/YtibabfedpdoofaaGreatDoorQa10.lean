/-
  A core's Apply: a statement that is accepted, by walking the program's text; conditions: the core is one that entries come to, the rows lie in memory. (Printed by wip/mkcore.py of wip/corestmt2.src.)
  What is wrong with an entry, by walking both texts; conditions: the rows lie in memory, texts no longer than memory bears, the table of parties as laid.
  A core's Apply, by walking the program's text; conditions: the core is one that entries come to, the rows lie in memory, int64 numbers.
  What Apply keeps; plain.
  Postings told and books copied, by walking the program's and the library's text; conditions: less than 100000 postings.
  What postings are called; plain.
-/
import Derived.Lib.SliceRun
import Derived.Lib.ItoaMem
import Derived.Test.YtibabfedpdoofaaGreatDoorQa1
import Derived.Test.YtibabfedpdoofaaGreatDoorQa3
import Derived.Test.YtibabfedpdoofaaGreatDoorQa4
import Derived.Test.YtibabfedpdoofaaGreatDoorQa9
namespace Go.Proofs.YtibabfedpdoofaaGreatDoor
open Go.RowKit Go.Own Go.Maps

theorem str_size (l : List UInt8) : (⟨l.toArray⟩ : ByteArray).size = l.length := rfl
theorem inAcc_form {w : World} {i : InA} {A : InS} {p q : Int} {rs : List RowS} {p' : Option Addr} {c' : Nat} (m : Value) (hp : p = 0 ∨ p = 1 ∨ p = 2) (h0 : IsRows w i.v0 A.r0) (h1 : IsRows w i.v1 A.r1) (h2 : IsRows w i.v2 A.r2) :
    ∃ (t0 t1 t2 : Option Addr) (d0 d1 d2 : Nat), inAcc i p (.slice p' rs.length c') m = ⟨.slice t0 (A.put p q rs).r0.length d0, .slice t1 (A.put p q rs).r1.length d1, .slice t2 (A.put p q rs).r2.length d2, m⟩ := by
  obtain ⟨s0, k0, e0, -⟩ := h0.slice
  obtain ⟨s1, k1, e1, -⟩ := h1.slice
  obtain ⟨s2, k2, e2, -⟩ := h2.slice
  unfold inAcc
  rw [e0, e1, e2]
  rcases hp with rfl | rfl | rfl
  · exact ⟨p', s1, s2, c', k1, k2, rfl⟩
  · exact ⟨s0, p', s2, k0, c', k2, rfl⟩
  · exact ⟨s0, s1, p', k0, k1, c', rfl⟩

set_option maxHeartbeats 64000000 in
set_option maxRecDepth 100000 in
theorem coStmt_yes {W w : World} {M : List Ent} {a : CoA} {S : CoS} {i : InA} {A : InS} {v : Value} (p q : Int) (rs : List RowS) (HO : Own W w (coPs a S i A ++ (inPs i A ++ M))) (hrs : RowsIn W M v rs) (hA : InOk A) (hok : CoOk S) (hlen : S.P.length ≤ 99000) (hL : LaidE W) (hacc : accE A p q rs = 0) :
    Calls Tryz.prog 82 #[.pointer (some ⟨a.c, 0, none⟩), .agg #[.int .i64 p, .int .i64 q, v]] w fun e w' => e = .returned (.int .i64 0) ∧ ∃ u' i', Own W w' (coPs { a with u := u' } { S with P := stmtP S.P (byI A (A.put p q rs)) q 60 } i' (A.put p q rs) ++ (inPs i' (A.put p q rs) ++ M)) := by
  obtain ⟨ac, av, ak, au, apm, abm⟩ := a
  have hst := okStmt_ok (accE_ok hacc).1
  have hp3 : p = 0 ∨ p = 1 ∨ p = 2 := by omega
  have hB := put_ok hA (accE_ok hacc).1
  have hsl := (hrs _ _ HO (fun e he => List.mem_append_right _ (List.mem_append_right _ he))).slice
  have AC := Lib.hid (fun (w : World) (L : List Ent) (h : Own W w L) (h0 : isl 5 i.v0 (A.r0.map rowC) ∈ L) (h1 : isl 5 i.v1 (A.r1.map rowC) ∈ L) (h2 : isl 5 i.v2 (A.r2.map rowC) ∈ L) (hm : mapM i.m (allF A) ∈ L) (hM : ∀ e ∈ M, e ∈ L) => show Calls Tryz.prog 130 #[.agg #[.int .i64 (A).p0, .int .i64 (A).q0, i.v0, .int .i64 (A).p1, .int .i64 (A).q1, i.v1, .int .i64 (A).p2, .int .i64 (A).q2, i.v2, i.m], .agg #[.int .i64 p, .int .i64 q, v]] w fun e w' =>
      ∃ (b n : Nat) (p' : Option Addr) (c' : Nat) (t0 t1 t2 : Option Addr) (d0 d1 d2 : Nat), Own w w' [mapE Tryz.prog 29 b n (allF (A.put p q rs)), row 160 5 (.slice p' rs.length c') (rs.map rowC)] ∧
        inAcc i p (.slice p' rs.length c') (.map (some b)) = ⟨.slice t0 (A.put p q rs).r0.length d0, .slice t1 (A.put p q rs).r1.length d1, .slice t2 (A.put p q rs).r2.length d2, .map (some b)⟩ ∧
        e = .returned (.tuple #[.agg #[.int .i64 ((A.put p q rs)).p0, .int .i64 ((A.put p q rs)).q0, .slice t0 (A.put p q rs).r0.length d0, .int .i64 ((A.put p q rs)).p1, .int .i64 ((A.put p q rs)).q1, .slice t1 (A.put p q rs).r1.length d1, .int .i64 ((A.put p q rs)).p2, .int .i64 ((A.put p q rs)).q2, .slice t2 (A.put p q rs).r2.length d2, .map (some b)], .int .i64 0]) from by
    refine (accept_any A p q rs (isRows_of_isL (h.has _ h0)) (isRows_of_isL (h.has _ h1)) (isRows_of_isL (h.has _ h2)) (hrs w L h hM) hA (h.has _ hm).form (hL.p.below h.grown hL.p.1)).mono ?_
    intro e w' he
    unfold AccPost at he
    rw [if_pos hacc] at he
    obtain ⟨b, n, u, hO, ⟨p', c', rfl⟩, rfl⟩ := he
    obtain ⟨t0, t1, t2, d0, d1, d2, hf⟩ := inAcc_form (p := p) (q := q) (rs := rs) (p' := p') (c' := c') (.map (some b)) hp3 (isRows_of_isL (h.has _ h0)) (isRows_of_isL (h.has _ h1)) (isRows_of_isL (h.has _ h2))
    refine ⟨b, n, p', c', t0, t1, t2, d0, d1, d2, hO, hf, ?_⟩
    unfold inAcc at hf
    simp only [InA.mk.injEq, and_true] at hf
    rw [← hf.1, ← hf.2.1, ← hf.2.2])
  have HKA := Lib.hid (fun (w : World) (b n : Nat) (u : Value) (h : ∀ e ∈ accK i A b n (allF (A.put p q rs)) u rs, e.F w) => accK_at hp3 h)
  have HKE := Lib.hid (fun (w : World) (b n : Nat) (u : Value) (x y z : Ent) (h : Own W w (x :: y :: z :: (accK i A b n (allF (A.put p q rs)) u rs ++ M))) => accK_end hp3 h)
  have BY := fun o => show byI A (A.put p q rs) o = netI (A.put p q rs) o - netI A o from rfl
  have I1 := Lib.hid (fun (w : World) (hb : Below W.heap.size W w) => itoaK_any q (by omega) (by omega) (hL.below hb))
  have hI2 := fun (o : Int) (h0 : 0 ≤ o) (h1 : o ≤ 1000) (w : World) (hb : Below W.heap.size W w) => itoaK_any o (by omega) (by omega) (hL.below hb)
  have hq0 : 0 ≤ q := by omega
  have hq1 : q ≤ 1073741824 := by omega
  obtain ⟨s0, c0, rfl, -⟩ := hsl
  generalize hAB : A.put p q rs = B at *
  unfold coPs coC inPs at HO
  simp only [List.cons_append, List.nil_append] at HO
  go_enter Tryz.func82, Tryz.ntmps82
  go_upto_region 1 with (first | go_big_skip | (first | go_big_skip | ((with_reducible apply wpList_loadAll HO); exact rfl; exact rfl; (repeat (with_reducible (first | exact At.head _ | apply At.tail))); infer_instance; exact rfl; exact rfl; (simp only [Act.put, zA, zB, zC])) | ((with_reducible apply wpList_loadOne HO); exact rfl; exact rfl; (repeat (with_reducible (first | exact At.head _ | apply At.tail))); exact rfl; infer_instance; exact rfl; (simp only [Act.put, zA, zB, zC]))) | ((with_reducible apply wpList_storeAll HO); exact rfl; exact rfl; exact rfl; (repeat (with_reducible (first | exact At.head _ | apply At.tail))); infer_instance; exact rfl; exact rfl; exact rfl; exact rfl; clear HO; intro w HO; (simp only [Act.put])) | (first | ((with_reducible apply wpList_boxAgg _ HO rfl); exact rfl; exact rfl; exact rfl; clear HO; intro b1 w HO; (simp only [Act.put, zA, zB, zC])) | ((with_reducible apply wpList_allocAgg _ HO rfl); exact rfl; infer_instance; exact rfl; clear HO; intro b1 w HO; (simp only [Act.put, zA, zB, zC]))))
  go_cut [5, 6] (fun x e wx => ∃ (b5 b n : Nat) (p' : Option Addr) (c' : Nat) (t0 t1 t2 : Option Addr) (d0 d1 d2 : Nat) (N : List Ent), inAcc i p (.slice p' rs.length c') (.map (some b)) = ⟨.slice t0 B.r0.length d0, .slice t1 B.r1.length d1, .slice t2 B.r2.length d2, .map (some b)⟩ ∧ N = accK i A b n (allF B) (.slice p' rs.length c') rs ++ M ∧ x = .pointer (some ⟨b5, 0, none⟩) ∧ e = .int .i64 0 ∧ Own W wx (box b5 (.cells #[.int .i64 B.p0, .int .i64 B.q0, (.slice t0 B.r0.length d0), .int .i64 B.p1, .int .i64 B.q1, (.slice t1 B.r1.length d1), .int .i64 B.p2, .int .i64 B.q2, (.slice t2 B.r2.length d2), (.map (some b))] 141) :: box b1 (.cells #[.int .i64 p, .int .i64 q, .slice s0 rs.length c0] 32) ::
    box ac (.cells #[av, .pointer (some ⟨ak, 0, none⟩), .int .i64 A.p0, .int .i64 A.q0, i.v0, .int .i64 A.p1, .int .i64 A.q1, i.v1, .int .i64 A.p2, .int .i64 A.q2, i.v2, i.m] 143) :: row 72 12 av (S.L.map sagaL) :: bkE ak au apm abm S.P :: N))
  case first =>
    refine region_tree [box b1 (.cells #[.int .i64 p, .int .i64 q, .slice s0 rs.length c0] 32), box ac (.cells #[av, .pointer (some ⟨ak, 0, none⟩), .int .i64 A.p0, .int .i64 A.q0, i.v0, .int .i64 A.p1, .int .i64 A.q1, i.v1, .int .i64 A.p2, .int .i64 A.q2, i.v2, i.m] 143)] [(0, true), (1, true), (2, true), (3, true), (4, true), (6, true), (7, true), (8, true), (11, true)] (.fork [(0, true), (1, true), (2, true), (3, true), (4, true)] 5 9 (.fin [(6, true), (7, true), (8, true), (9, false), (10, false), (11, true)]) (.fin [(5, false), (6, true), (7, true), (8, true), (10, false), (11, true)])) HO (by with_reducible (repeat (first | exact List.nil_sublist _ | apply List.Sublist.cons_cons | apply List.Sublist.cons))) (by kernel_rfl) (by kernel_rfl) ?_
    clear HO
    intro w HO
    refine wpS_fork ?_
    repeat (first | ((with_reducible apply wpSched_loadAll); exact rfl; exact rfl; exact rfl; (repeat (with_reducible (first | exact At.head _ | apply At.tail))); infer_instance; exact rfl; exact rfl; (simp only [Act.put, zA, zB, zC])) | ((with_reducible apply wpSched_loadOne); exact rfl; exact rfl; exact rfl; (repeat (with_reducible (first | exact At.head _ | apply At.tail))); exact rfl; infer_instance; exact rfl; (simp only [Act.put, zA, zB, zC])) | ((with_reducible apply wpSched_loadPart); exact rfl; exact rfl; (first | (simp [Act.eval]; rfl) | exact rfl); (repeat (with_reducible (first | exact At.head _ | apply At.tail))); infer_instance; exact (Nat.le_of_ble_eq_true rfl); (simp only [List.drop_succ_cons, List.drop_zero, List.take_succ_cons, List.take_zero]; rfl); exact rfl; (simp only [Act.put, zA, zB, zC])) | ((with_reducible apply wpSched_pure); exact rfl; exact rfl; (intro w'; go_simp; try with_reducible rfl); (simp only [Act.put, zA, zB, zC])))
    refine fork_end rfl rfl ?_ ?_
    · go_wp2_with ((go_at_call 130; go_must ((with_reducible refine (AC.out _ _ HO (by repeat (first | exact List.mem_cons_self | apply List.mem_cons_of_mem)) (by repeat (first | exact List.mem_cons_self | apply List.mem_cons_of_mem)) (by repeat (first | exact List.mem_cons_self | apply List.mem_cons_of_mem)) (by repeat (first | exact List.mem_cons_self | apply List.mem_cons_of_mem)) (by intro e he; repeat (first | exact he | apply List.mem_cons_of_mem))).mono ?_); rintro e w ⟨b, n, p', c', t0, t1, t2, d0, d1, d2, HO1, hy, rfl⟩; replace HO := HO.lift HO1; clear HO1; simp only [List.cons_append, List.nil_append] at HO)))
      refine thenQ_keep (HO.held (by with_reducible (repeat (first | exact List.nil_sublist _ | apply List.Sublist.cons_cons | apply List.Sublist.cons)))) ?_
      refine wpS_fin ?_
      repeat (first | ((with_reducible apply wpSched_loadAll); exact rfl; exact rfl; exact rfl; (repeat (with_reducible (first | exact At.head _ | apply At.tail))); infer_instance; exact rfl; exact rfl; (simp only [Act.put, zA, zB, zC])) | ((with_reducible apply wpSched_loadOne); exact rfl; exact rfl; exact rfl; (repeat (with_reducible (first | exact At.head _ | apply At.tail))); exact rfl; infer_instance; exact rfl; (simp only [Act.put, zA, zB, zC])) | ((with_reducible apply wpSched_loadPart); exact rfl; exact rfl; (first | (simp [Act.eval]; rfl) | exact rfl); (repeat (with_reducible (first | exact At.head _ | apply At.tail))); infer_instance; exact (Nat.le_of_ble_eq_true rfl); (simp only [List.drop_succ_cons, List.drop_zero, List.take_succ_cons, List.take_zero]; rfl); exact rfl; (simp only [Act.put, zA, zB, zC])) | ((with_reducible apply wpSched_pure); exact rfl; exact rfl; (intro w'; go_simp; try with_reducible rfl); (simp only [Act.put, zA, zB, zC])))
      ((with_reducible apply wpSched_loud); exact rfl; (first | ((with_reducible apply wpList_boxAgg _ HO rfl); exact rfl; exact rfl; exact rfl; clear HO; intro b5 w HO; (simp only [Act.put, zA, zB, zC])) | ((with_reducible apply wpList_allocAgg _ HO rfl); exact rfl; infer_instance; exact rfl; clear HO; intro b5 w HO; (simp only [Act.put, zA, zB, zC])) | ((with_reducible apply wpList_boxOne _ HO rfl); exact rfl; (first | (simp [Act.eval]; rfl) | exact rfl); exact rfl; exact rfl; clear HO; intro b5 w HO; (simp only [Act.put, zA, zB, zC])) | ((with_reducible apply wpList_alloc _ HO rfl); exact rfl; infer_instance; exact rfl; exact rfl; clear HO; intro b5 w HO; (simp only [Act.put, zA, zB, zC]))))
      refine wpList_nil (thenQ_keep (HO.held (by with_reducible (repeat (first | exact List.nil_sublist _ | apply List.Sublist.cons_cons | apply List.Sublist.cons)))) ?_)
      ((with_reducible apply wpSched_loud); exact rfl; ((with_reducible apply wpList_storeAll HO); exact rfl; exact rfl; exact rfl; (repeat (with_reducible (first | exact At.head _ | apply At.tail))); infer_instance; exact rfl; exact rfl; exact rfl; exact rfl; clear HO; intro w HO; (simp only [Act.put])))
      refine wpList_nil (thenQ_keep (HO.held (by with_reducible (repeat (first | exact List.nil_sublist _ | apply List.Sublist.cons_cons | apply List.Sublist.cons)))) ?_)
      repeat ((with_reducible apply wpSched_pure); exact rfl; exact rfl; (intro w'; go_simp; try with_reducible rfl); (simp only [Act.put, zA, zB, zC]))
      refine wpSched_end ?_
      go_wp2_with fail
      go_meet
      exact ⟨b5, b, n, p', c', t0, t1, t2, d0, d1, d2, _, hy, rfl, rfl, rfl, HO.perm (((List.perm_append_comm (l₁ := [_, _]) (l₂ := [_, _, _, _])).append_right _).cons _)⟩
    · (first | ((with_reducible apply wpList_boxAgg _ HO rfl); exact rfl; exact rfl; exact rfl; clear HO; intro b5 w HO; (simp only [Act.put, zA, zB, zC])) | ((with_reducible apply wpList_allocAgg _ HO rfl); exact rfl; infer_instance; exact rfl; clear HO; intro b5 w HO; (simp only [Act.put, zA, zB, zC])) | ((with_reducible apply wpList_boxOne _ HO rfl); exact rfl; (first | (simp [Act.eval]; rfl) | exact rfl); exact rfl; exact rfl; clear HO; intro b5 w HO; (simp only [Act.put, zA, zB, zC])) | ((with_reducible apply wpList_alloc _ HO rfl); exact rfl; infer_instance; exact rfl; exact rfl; clear HO; intro b5 w HO; (simp only [Act.put, zA, zB, zC])))
      refine wpList_nil (thenQ_keep (HO.held (by with_reducible (repeat (first | exact List.nil_sublist _ | apply List.Sublist.cons_cons | apply List.Sublist.cons)))) ?_)
      refine wpS_fin ?_
      ((with_reducible apply wpSched_loud); exact rfl; go_wp2_with ((go_at_call 130; go_must ((with_reducible refine (AC.out _ _ HO (by repeat (first | exact List.mem_cons_self | apply List.mem_cons_of_mem)) (by repeat (first | exact List.mem_cons_self | apply List.mem_cons_of_mem)) (by repeat (first | exact List.mem_cons_self | apply List.mem_cons_of_mem)) (by repeat (first | exact List.mem_cons_self | apply List.mem_cons_of_mem)) (by intro e he; repeat (first | exact he | apply List.mem_cons_of_mem))).mono ?_); rintro e w ⟨b, n, p', c', t0, t1, t2, d0, d1, d2, HO1, hy, rfl⟩; replace HO := HO.lift HO1; clear HO1; simp only [List.cons_append, List.nil_append] at HO))))
      refine thenQ_keep (HO.held (by with_reducible (repeat (first | exact List.nil_sublist _ | apply List.Sublist.cons_cons | apply List.Sublist.cons)))) ?_
      repeat (first | ((with_reducible apply wpSched_loadAll); exact rfl; exact rfl; exact rfl; (repeat (with_reducible (first | exact At.head _ | apply At.tail))); infer_instance; exact rfl; exact rfl; (simp only [Act.put, zA, zB, zC])) | ((with_reducible apply wpSched_loadOne); exact rfl; exact rfl; exact rfl; (repeat (with_reducible (first | exact At.head _ | apply At.tail))); exact rfl; infer_instance; exact rfl; (simp only [Act.put, zA, zB, zC])) | ((with_reducible apply wpSched_loadPart); exact rfl; exact rfl; (first | (simp [Act.eval]; rfl) | exact rfl); (repeat (with_reducible (first | exact At.head _ | apply At.tail))); infer_instance; exact (Nat.le_of_ble_eq_true rfl); (simp only [List.drop_succ_cons, List.drop_zero, List.take_succ_cons, List.take_zero]; rfl); exact rfl; (simp only [Act.put, zA, zB, zC])) | ((with_reducible apply wpSched_pure); exact rfl; exact rfl; (intro w'; go_simp; try with_reducible rfl); (simp only [Act.put, zA, zB, zC])))
      ((with_reducible apply wpSched_loud); exact rfl; ((with_reducible apply wpList_storeAll HO); exact rfl; exact rfl; exact rfl; (repeat (with_reducible (first | exact At.head _ | apply At.tail))); infer_instance; exact rfl; exact rfl; exact rfl; exact rfl; clear HO; intro w HO; (simp only [Act.put])))
      refine wpList_nil (thenQ_keep (HO.held (by with_reducible (repeat (first | exact List.nil_sublist _ | apply List.Sublist.cons_cons | apply List.Sublist.cons)))) ?_)
      repeat ((with_reducible apply wpSched_pure); exact rfl; exact rfl; (intro w'; go_simp; try with_reducible rfl); (simp only [Act.put, zA, zB, zC]))
      refine wpSched_end ?_
      go_wp2_with fail
      go_meet
      exact ⟨b5, b, n, p', c', t0, t1, t2, d0, d1, d2, _, hy, rfl, rfl, rfl, HO.perm ((List.perm_append_comm (l₁ := [_, _]) (l₂ := [_, _, _, _, _])).append_right _)⟩

  clear HO AC
  obtain ⟨b5, bm, n, p', c', t0, t1, t2, d0, d1, d2, N, hy, hN, rfl, rfl, HO⟩ := hcut
  have hin := fun w h => HKA.out w bm n (.slice p' rs.length c') h
  have hen := fun w x y z h => HKE.out w bm n (.slice p' rs.length c') x y z h
  simp only [hy] at hin hen
  have HB := fun (w : World) (L : List Ent) (h : Own W w L) (hm : ∀ e ∈ N, e ∈ L) => hin w (fun e he => h.has e (hm e (by rw [hN]; exact List.mem_append_left _ he)))
  have HE := Lib.hid (fun (w : World) (x y z : Ent) (h : Own W w (x :: y :: z :: N)) => hen w x y z (by rw [← hN]; exact h))
  have NA0 := Lib.hid (fun (o : Int) (w1 : (Lit.int .i64 o).wf = true) (w : World) (L : List Ent) (h : Own W w L) (hm : ∀ e ∈ N, e ∈ L) => intNet_any B o (HB w L h hm).x0 (HB w L h hm).x1 (HB w L h hm).x2 hB (HB w L h hm).xm (fun o d h2 h3 => allF_row hB h2 h3) w1)
  have NB0 := Lib.hid (fun (o : Int) (w1 : (Lit.int .i64 o).wf = true) (w : World) (L : List Ent) (h : Own W w L) (hm : ∀ e ∈ N, e ∈ L) => intNet_any A o (HB w L h hm).i0 (HB w L h hm).i1 (HB w L h hm).i2 hA (HB w L h hm).im (fun o d h2 h3 => allF_row hA h2 h3) w1)
  have bB := netI_bound hB
  have bA := netI_bound hA
  have hPK := fun k => stmtP_ok hok.bk (byI A B) q k
  clear hin hen HB hy hN HKA HKE hst hacc hL hrs hp3 hA hB hok
  have hex : ((0 : Int) != 0) = false := rfl
  go_wp2_with (first | go_big_skip | (first | go_big_skip | ((with_reducible apply wpList_loadAll HO); exact rfl; exact rfl; (repeat (with_reducible (first | exact At.head _ | apply At.tail))); infer_instance; exact rfl; exact rfl; (simp only [Act.put, zA, zB, zC])) | ((with_reducible apply wpList_loadOne HO); exact rfl; exact rfl; (repeat (with_reducible (first | exact At.head _ | apply At.tail))); exact rfl; infer_instance; exact rfl; (simp only [Act.put, zA, zB, zC]))))
  go_loopw [7] (fun o wr => ∃ k : Nat, k ≤ 60 ∧ o = .int .i64 ((k : Int) + 1) ∧ ∃ u, Own W wr (box b5 (.cells #[.int .i64 B.p0, .int .i64 B.q0, .slice t0 B.r0.length d0, .int .i64 B.p1, .int .i64 B.q1, .slice t1 B.r1.length d1, .int .i64 B.p2, .int .i64 B.q2, .slice t2 B.r2.length d2, .map (some bm)] 141) :: box b1 (.cells #[.int .i64 p, .int .i64 q, .slice s0 rs.length c0] 32) :: box ac (.cells #[av, .pointer (some ⟨ak, 0, none⟩), .int .i64 A.p0, .int .i64 A.q0, i.v0, .int .i64 A.p1, .int .i64 A.q1, i.v1, .int .i64 A.p2, .int .i64 A.q2, i.v2, i.m] 143) :: row 72 12 av (S.L.map sagaL) :: bkE ak u apm abm (stmtP S.P (byI A B) q k) :: N)) (fun o _ => 62 - (intOf o).toNat)
  case atStart => exact ⟨0, by omega, rfl, au, HO⟩
  case round =>
    clear HO
    obtain ⟨k, hk, rfl, u, HO⟩ := hrel
    by_cases hk60 : k < 60
    rotate_left
    · have hk' : k = 60 := by omega
      have hkI : ¬ ((k : Int) + 1 ≤ 60) := by omega
      rw [show stmtP S.P (byI A B) q k = stmtP S.P (byI A B) q 60 by rw [hk']] at HO
      generalize hPx : stmtP S.P (byI A B) q 60 = Px at *
      clear hPK hk' hk60 NA0 NB0 BY
      go_wp2_with (first | go_big_skip | (first | go_big_skip | ((with_reducible apply wpList_loadAll HO); exact rfl; exact rfl; (repeat (with_reducible (first | exact At.head _ | apply At.tail))); infer_instance; exact rfl; exact rfl; (simp only [Act.put, zA, zB, zC])) | ((with_reducible apply wpList_loadOne HO); exact rfl; exact rfl; (repeat (with_reducible (first | exact At.head _ | apply At.tail))); exact rfl; infer_instance; exact rfl; (simp only [Act.put, zA, zB, zC]))) | ((with_reducible apply wpList_storePart HO); exact rfl; exact rfl; (first | (simp [Act.eval]; rfl) | exact rfl); exact rfl; (repeat (with_reducible (first | exact At.head _ | apply At.tail))); infer_instance; exact rfl; exact (by simp); (simp only [putL, List.drop_succ_cons, List.drop_zero, List.take_succ_cons, List.take_zero, List.length_cons, List.length_nil, List.cons_append, List.nil_append, List.append_nil, Nat.reduceAdd]; rfl); exact rfl; exact rfl; clear HO; intro w HO; (simp only [Act.put])))
      go_ret
      subst hPx
      refine ⟨rfl, u, ⟨.slice t0 B.r0.length d0, .slice t1 B.r1.length d1, .slice t2 B.r2.length d2, .map (some bm)⟩, ?_⟩
      exact HE.out _ _ _ _ HO.tail.tail
    · have hkI : (k : Int) + 1 ≤ 60 := by omega
      have NA := Lib.hid (NA0.out ((k : Int) + 1) (wf_small (by omega) (by omega)))
      have NB := Lib.hid (NB0.out ((k : Int) + 1) (wf_small (by omega) (by omega)))
      have I2 := Lib.hid (hI2 ((k : Int) + 1) (by omega) (by omega))
      have z1 : (⟨(Lib.itoa q).toArray⟩ : ByteArray).size ≤ 21 := by rw [str_size]; exact Lib.itoa_length_le q (by omega) (by omega)
      have z2 : (⟨(Lib.itoa ((k : Int) + 1)).toArray⟩ : ByteArray).size ≤ 21 := by rw [str_size]; exact Lib.itoa_length_le ((k : Int) + 1) (by omega) (by omega)
      have HS := Lib.hid (show sidK q ((k : Int) + 1) = (⟨#[115]⟩ : ByteArray) ++ ⟨(Lib.itoa q).toArray⟩ ++ ⟨#[45]⟩ ++ ⟨(Lib.itoa ((k : Int) + 1)).toArray⟩ from rfl)
      have hsz := sidK_size hq0 hq1 (show (0 : Int) ≤ (k : Int) + 1 by omega) (by omega)
      have hnx := Lib.hid (show stmtP S.P (byI A B) q (k + 1) = if byI A B ((k : Int) + 1) = 0 then stmtP S.P (byI A B) q k else postL (stmtP S.P (byI A B) q k) (stPst q ((k : Int) + 1) (byI A B ((k : Int) + 1))) from rfl)
      have hpk := hPK k
      have bB1 := bB ((k : Int) + 1)
      have bA1 := bA ((k : Int) + 1)
      have BY1 := BY ((k : Int) + 1)
      have HSP := Lib.hid (fun x => show stPst q ((k : Int) + 1) x = if x < 0 then ⟨sidK q ((k : Int) + 1), (k : Int) + 1, 1, 2, -x⟩ else ⟨sidK q ((k : Int) + 1), (k : Int) + 1, 2, 1, x⟩ from rfl)
      rw [BY1] at hnx
      clear BY1 NA0 NB0 hI2 hPK BY bB bA HE
      generalize hPy : stmtP S.P (byI A B) q (k + 1) = Py at *
      generalize stmtP S.P (byI A B) q k = Px at *
      generalize netI B ((k : Int) + 1) = nb at *
      generalize netI A ((k : Int) + 1) = na at *
      generalize sidK q ((k : Int) + 1) = id9 at *
      generalize (⟨(Lib.itoa q).toArray⟩ : ByteArray) = x1 at *
      generalize (⟨(Lib.itoa ((k : Int) + 1)).toArray⟩ : ByteArray) = x2 at *
      have q1 : ((⟨#[115]⟩ : ByteArray) ++ x1).size = 1 + x1.size := by rw [ByteArray.size_append]; rfl
      have q2 : ((⟨#[115]⟩ : ByteArray) ++ x1 ++ ⟨#[45]⟩).size = 1 + x1.size + 1 := by rw [ByteArray.size_append, q1]; rfl
      have a1 : ¬ (9223372036854775807 < (⟨#[115]⟩ : ByteArray).size + x1.size) := by show ¬ (9223372036854775807 < 1 + x1.size); omega
      have a1' : ¬ (9223372036854775807 < 1 + x1.size) := by omega
      have a2 : ¬ (9223372036854775807 < ((⟨#[115]⟩ : ByteArray) ++ x1).size + (⟨#[45]⟩ : ByteArray).size) := by rw [q1]; show ¬ (9223372036854775807 < 1 + x1.size + 1); omega
      have a2' : ¬ (9223372036854775807 < 1 + x1.size + 1) := by omega
      have a3 : ¬ (9223372036854775807 < ((⟨#[115]⟩ : ByteArray) ++ x1 ++ ⟨#[45]⟩).size + x2.size) := by rw [q2]; omega
      have a3' : ¬ (9223372036854775807 < 1 + x1.size + 1 + x2.size) := by omega
      have hwr : IntKind.i64.wrap (nb - na) = nb - na := wrap_in (inI_iff.2 (by omega))
      have hwp : ∀ x, inI x = true → WfP ⟨id9, (k : Int) + 1, 2, 1, x⟩ := fun x hx => ⟨show inI ((k : Int) + 1) = true from inI_iff.2 (by omega), rfl, rfl, hx, show id9.size ≤ maxLen by unfold maxLen; omega⟩
      have hwq : ∀ x, inI x = true → WfP ⟨id9, (k : Int) + 1, 1, 2, x⟩ := fun x hx => ⟨show inI ((k : Int) + 1) = true from inI_iff.2 (by omega), rfl, rfl, hx, show id9.size ≤ maxLen by unfold maxLen; omega⟩
      go_upto_region 7 with (first | go_big_skip | (first | go_big_skip | ((with_reducible apply wpList_loadAll HO); exact rfl; exact rfl; (repeat (with_reducible (first | exact At.head _ | apply At.tail))); infer_instance; exact rfl; exact rfl; (simp only [Act.put, zA, zB, zC])) | ((with_reducible apply wpList_loadOne HO); exact rfl; exact rfl; (repeat (with_reducible (first | exact At.head _ | apply At.tail))); exact rfl; infer_instance; exact rfl; (simp only [Act.put, zA, zB, zC]))))
      go_cut [8] (fun x wx => ∃ b8, x = .pointer (some ⟨b8, 0, none⟩) ∧ Own W wx (box b8 (.cells #[.string id9, .int .i64 ((k : Int) + 1), .int .i64 2, .int .i64 1, .int .i64 (nb - na)] 187) :: box b5 (.cells #[.int .i64 B.p0, .int .i64 B.q0, .slice t0 B.r0.length d0, .int .i64 B.p1, .int .i64 B.q1, .slice t1 B.r1.length d1, .int .i64 B.p2, .int .i64 B.q2, .slice t2 B.r2.length d2, .map (some bm)] 141) :: box b1 (.cells #[.int .i64 p, .int .i64 q, .slice s0 rs.length c0] 32) :: box ac (.cells #[av, .pointer (some ⟨ak, 0, none⟩), .int .i64 A.p0, .int .i64 A.q0, i.v0, .int .i64 A.p1, .int .i64 A.q1, i.v1, .int .i64 A.p2, .int .i64 A.q2, i.v2, i.m] 143) :: row 72 12 av (S.L.map sagaL) :: bkE ak u apm abm Px :: N))
      case first =>
        refine region_tree [box b5 (.cells #[.int .i64 B.p0, .int .i64 B.q0, .slice t0 B.r0.length d0, .int .i64 B.p1, .int .i64 B.q1, .slice t1 B.r1.length d1, .int .i64 B.p2, .int .i64 B.q2, .slice t2 B.r2.length d2, .map (some bm)] 141), box b1 (.cells #[.int .i64 p, .int .i64 q, .slice s0 rs.length c0] 32), box ac (.cells #[av, .pointer (some ⟨ak, 0, none⟩), .int .i64 A.p0, .int .i64 A.q0, i.v0, .int .i64 A.p1, .int .i64 A.q1, i.v1, .int .i64 A.p2, .int .i64 A.q2, i.v2, i.m] 143)] [(0, true), (1, true), (3, true), (4, true), (5, true), (7, true), (8, true), (9, true), (10, true), (12, true), (13, true), (14, true), (15, true), (16, true), (18, true), (19, true)] (.fork [(0, true), (1, true), (5, true), (8, true), (9, true), (10, true), (12, true), (13, true), (14, true), (15, true), (16, true)] 2 20 (.fork [(3, true), (4, true)] 6 20 (.fork [(7, true)] 11 20 (.fork [] 17 20 (.fin [(18, true), (19, true), (20, false), (21, false)]) (.fin [(17, false), (18, true), (19, true), (21, false)])) (.fin [(11, false), (17, false), (18, true), (19, true), (21, false)])) (.fin [(6, false), (7, true), (11, false), (17, false), (18, true), (19, true), (21, false)])) (.fin [(2, false), (3, true), (4, true), (6, false), (7, true), (11, false), (17, false), (18, true), (19, true), (21, false)])) HO (by with_reducible (repeat (first | exact List.nil_sublist _ | apply List.Sublist.cons_cons | apply List.Sublist.cons))) (by kernel_rfl) (by kernel_rfl) ?_
        clear HO
        intro w HO
        refine wpS_fork ?_
        repeat (first | ((with_reducible apply wpSched_loadAll); exact rfl; exact rfl; exact rfl; (repeat (with_reducible (first | exact At.head _ | apply At.tail))); infer_instance; exact rfl; exact rfl; (simp only [Act.put, zA, zB, zC])) | ((with_reducible apply wpSched_loadOne); exact rfl; exact rfl; exact rfl; (repeat (with_reducible (first | exact At.head _ | apply At.tail))); exact rfl; infer_instance; exact rfl; (simp only [Act.put, zA, zB, zC])) | ((with_reducible apply wpSched_loadPart); exact rfl; exact rfl; (first | (simp [Act.eval]; rfl) | exact rfl); (repeat (with_reducible (first | exact At.head _ | apply At.tail))); infer_instance; exact (Nat.le_of_ble_eq_true rfl); (simp only [List.drop_succ_cons, List.drop_zero, List.take_succ_cons, List.take_zero]; rfl); exact rfl; (simp only [Act.put, zA, zB, zC])) | ((with_reducible apply wpSched_pure); exact rfl; exact rfl; (intro w'; go_simp; try with_reducible rfl); (simp only [Act.put, zA, zB, zC])))
        refine fork_end rfl rfl ?_ ?_
        · go_wp2_with ((go_at_call 109; go_must ((with_reducible refine (I1.out _ HO.grown).mono ?_); rintro e w ⟨rfl, hb⟩; replace HO := HO.call hb; clear hb)))
          refine thenQ_keep (HO.held (by with_reducible (repeat (first | exact List.nil_sublist _ | apply List.Sublist.cons_cons | apply List.Sublist.cons)))) ?_
          refine wpS_fork ?_
          repeat (first | ((with_reducible apply wpSched_loadAll); exact rfl; exact rfl; exact rfl; (repeat (with_reducible (first | exact At.head _ | apply At.tail))); infer_instance; exact rfl; exact rfl; (simp only [Act.put, zA, zB, zC])) | ((with_reducible apply wpSched_loadOne); exact rfl; exact rfl; exact rfl; (repeat (with_reducible (first | exact At.head _ | apply At.tail))); exact rfl; infer_instance; exact rfl; (simp only [Act.put, zA, zB, zC])) | ((with_reducible apply wpSched_loadPart); exact rfl; exact rfl; (first | (simp [Act.eval]; rfl) | exact rfl); (repeat (with_reducible (first | exact At.head _ | apply At.tail))); infer_instance; exact (Nat.le_of_ble_eq_true rfl); (simp only [List.drop_succ_cons, List.drop_zero, List.take_succ_cons, List.take_zero]; rfl); exact rfl; (simp only [Act.put, zA, zB, zC])) | ((with_reducible apply wpSched_pure); exact rfl; exact rfl; (intro w'; go_simp; try with_reducible rfl); (simp only [Act.put, zA, zB, zC])))
          refine fork_end rfl rfl ?_ ?_
          · go_wp2_with ((go_at_call 109; go_must ((with_reducible refine (I2.out _ HO.grown).mono ?_); rintro e w ⟨rfl, hb⟩; replace HO := HO.call hb; clear hb)))
            refine thenQ_keep (HO.held (by with_reducible (repeat (first | exact List.nil_sublist _ | apply List.Sublist.cons_cons | apply List.Sublist.cons)))) ?_
            refine wpS_fork ?_
            repeat (first | ((with_reducible apply wpSched_loadAll); exact rfl; exact rfl; exact rfl; (repeat (with_reducible (first | exact At.head _ | apply At.tail))); infer_instance; exact rfl; exact rfl; (simp only [Act.put, zA, zB, zC])) | ((with_reducible apply wpSched_loadOne); exact rfl; exact rfl; exact rfl; (repeat (with_reducible (first | exact At.head _ | apply At.tail))); exact rfl; infer_instance; exact rfl; (simp only [Act.put, zA, zB, zC])) | ((with_reducible apply wpSched_loadPart); exact rfl; exact rfl; (first | (simp [Act.eval]; rfl) | exact rfl); (repeat (with_reducible (first | exact At.head _ | apply At.tail))); infer_instance; exact (Nat.le_of_ble_eq_true rfl); (simp only [List.drop_succ_cons, List.drop_zero, List.take_succ_cons, List.take_zero]; rfl); exact rfl; (simp only [Act.put, zA, zB, zC])) | ((with_reducible apply wpSched_pure); exact rfl; exact rfl; (intro w'; go_simp; try with_reducible rfl); (simp only [Act.put, zA, zB, zC])))
            refine fork_end rfl rfl ?_ ?_
            · go_wp2_with ((go_at_call 131; go_must ((with_reducible refine (NA.out _ _ HO (by intro e he; repeat (first | exact he | apply List.mem_cons_of_mem))).mono ?_); rintro e w ⟨rfl, hb⟩; replace HO := HO.call hb; clear hb)))
              refine thenQ_keep (HO.held (by with_reducible (repeat (first | exact List.nil_sublist _ | apply List.Sublist.cons_cons | apply List.Sublist.cons)))) ?_
              refine wpS_fork ?_
              repeat (first | ((with_reducible apply wpSched_loadAll); exact rfl; exact rfl; exact rfl; (repeat (with_reducible (first | exact At.head _ | apply At.tail))); infer_instance; exact rfl; exact rfl; (simp only [Act.put, zA, zB, zC])) | ((with_reducible apply wpSched_loadOne); exact rfl; exact rfl; exact rfl; (repeat (with_reducible (first | exact At.head _ | apply At.tail))); exact rfl; infer_instance; exact rfl; (simp only [Act.put, zA, zB, zC])) | ((with_reducible apply wpSched_loadPart); exact rfl; exact rfl; (first | (simp [Act.eval]; rfl) | exact rfl); (repeat (with_reducible (first | exact At.head _ | apply At.tail))); infer_instance; exact (Nat.le_of_ble_eq_true rfl); (simp only [List.drop_succ_cons, List.drop_zero, List.take_succ_cons, List.take_zero]; rfl); exact rfl; (simp only [Act.put, zA, zB, zC])) | ((with_reducible apply wpSched_pure); exact rfl; exact rfl; (intro w'; go_simp; try with_reducible rfl); (simp only [Act.put, zA, zB, zC])))
              refine fork_end rfl rfl ?_ ?_
              · go_wp2_with ((go_at_call 131; go_must ((with_reducible refine (NB.out _ _ HO (by intro e he; repeat (first | exact he | apply List.mem_cons_of_mem))).mono ?_); rintro e w ⟨rfl, hb⟩; replace HO := HO.call hb; clear hb)))
                refine thenQ_keep (HO.held (by with_reducible (repeat (first | exact List.nil_sublist _ | apply List.Sublist.cons_cons | apply List.Sublist.cons)))) ?_
                refine wpS_fin ?_
                repeat (first | ((with_reducible apply wpSched_loadAll); exact rfl; exact rfl; exact rfl; (repeat (with_reducible (first | exact At.head _ | apply At.tail))); infer_instance; exact rfl; exact rfl; (simp only [Act.put, zA, zB, zC])) | ((with_reducible apply wpSched_loadOne); exact rfl; exact rfl; exact rfl; (repeat (with_reducible (first | exact At.head _ | apply At.tail))); exact rfl; infer_instance; exact rfl; (simp only [Act.put, zA, zB, zC])) | ((with_reducible apply wpSched_loadPart); exact rfl; exact rfl; (first | (simp [Act.eval]; rfl) | exact rfl); (repeat (with_reducible (first | exact At.head _ | apply At.tail))); infer_instance; exact (Nat.le_of_ble_eq_true rfl); (simp only [List.drop_succ_cons, List.drop_zero, List.take_succ_cons, List.take_zero]; rfl); exact rfl; (simp only [Act.put, zA, zB, zC])) | ((with_reducible apply wpSched_pure); exact rfl; exact rfl; (intro w'; go_simp; try with_reducible rfl); (simp only [Act.put, zA, zB, zC])))
                ((with_reducible apply wpSched_loud); exact rfl; (first | ((with_reducible apply wpList_boxAgg _ HO rfl); exact rfl; exact rfl; exact rfl; clear HO; intro b8 w HO; (simp only [Act.put, zA, zB, zC])) | ((with_reducible apply wpList_allocAgg _ HO rfl); exact rfl; infer_instance; exact rfl; clear HO; intro b8 w HO; (simp only [Act.put, zA, zB, zC])) | ((with_reducible apply wpList_boxOne _ HO rfl); exact rfl; (first | (simp [Act.eval]; rfl) | exact rfl); exact rfl; exact rfl; clear HO; intro b8 w HO; (simp only [Act.put, zA, zB, zC])) | ((with_reducible apply wpList_alloc _ HO rfl); exact rfl; infer_instance; exact rfl; exact rfl; clear HO; intro b8 w HO; (simp only [Act.put, zA, zB, zC]))))
                refine wpList_nil (thenQ_keep (HO.held (by with_reducible (repeat (first | exact List.nil_sublist _ | apply List.Sublist.cons_cons | apply List.Sublist.cons)))) ?_)
                ((with_reducible apply wpSched_loud); exact rfl; ((with_reducible apply wpList_storeAll HO); exact rfl; exact rfl; exact rfl; (repeat (with_reducible (first | exact At.head _ | apply At.tail))); infer_instance; exact rfl; exact rfl; exact rfl; exact rfl; clear HO; intro w HO; (simp only [Act.put])))
                refine wpList_nil (thenQ_keep (HO.held (by with_reducible (repeat (first | exact List.nil_sublist _ | apply List.Sublist.cons_cons | apply List.Sublist.cons)))) ?_)
                repeat ((with_reducible apply wpSched_pure); exact rfl; exact rfl; (intro w'; go_simp; try with_reducible rfl); (simp only [Act.put, zA, zB, zC]))
                refine wpSched_end ?_
                go_wp2_with fail
                go_meet
                exact ⟨b8, rfl, by rw [HS.out]; exact HO⟩
              · (first | ((with_reducible apply wpList_boxAgg _ HO rfl); exact rfl; exact rfl; exact rfl; clear HO; intro b8 w HO; (simp only [Act.put, zA, zB, zC])) | ((with_reducible apply wpList_allocAgg _ HO rfl); exact rfl; infer_instance; exact rfl; clear HO; intro b8 w HO; (simp only [Act.put, zA, zB, zC])) | ((with_reducible apply wpList_boxOne _ HO rfl); exact rfl; (first | (simp [Act.eval]; rfl) | exact rfl); exact rfl; exact rfl; clear HO; intro b8 w HO; (simp only [Act.put, zA, zB, zC])) | ((with_reducible apply wpList_alloc _ HO rfl); exact rfl; infer_instance; exact rfl; exact rfl; clear HO; intro b8 w HO; (simp only [Act.put, zA, zB, zC])))
                refine wpList_nil (thenQ_keep (HO.held (by with_reducible (repeat (first | exact List.nil_sublist _ | apply List.Sublist.cons_cons | apply List.Sublist.cons)))) ?_)
                refine wpS_fin ?_
                ((with_reducible apply wpSched_loud); exact rfl; go_wp2_with ((go_at_call 131; go_must ((with_reducible refine (NB.out _ _ HO (by intro e he; repeat (first | exact he | apply List.mem_cons_of_mem))).mono ?_); rintro e w ⟨rfl, hb⟩; replace HO := HO.call hb; clear hb))))
                refine thenQ_keep (HO.held (by with_reducible (repeat (first | exact List.nil_sublist _ | apply List.Sublist.cons_cons | apply List.Sublist.cons)))) ?_
                repeat (first | ((with_reducible apply wpSched_loadAll); exact rfl; exact rfl; exact rfl; (repeat (with_reducible (first | exact At.head _ | apply At.tail))); infer_instance; exact rfl; exact rfl; (simp only [Act.put, zA, zB, zC])) | ((with_reducible apply wpSched_loadOne); exact rfl; exact rfl; exact rfl; (repeat (with_reducible (first | exact At.head _ | apply At.tail))); exact rfl; infer_instance; exact rfl; (simp only [Act.put, zA, zB, zC])) | ((with_reducible apply wpSched_loadPart); exact rfl; exact rfl; (first | (simp [Act.eval]; rfl) | exact rfl); (repeat (with_reducible (first | exact At.head _ | apply At.tail))); infer_instance; exact (Nat.le_of_ble_eq_true rfl); (simp only [List.drop_succ_cons, List.drop_zero, List.take_succ_cons, List.take_zero]; rfl); exact rfl; (simp only [Act.put, zA, zB, zC])) | ((with_reducible apply wpSched_pure); exact rfl; exact rfl; (intro w'; go_simp; try with_reducible rfl); (simp only [Act.put, zA, zB, zC])))
                ((with_reducible apply wpSched_loud); exact rfl; ((with_reducible apply wpList_storeAll HO); exact rfl; exact rfl; exact rfl; (repeat (with_reducible (first | exact At.head _ | apply At.tail))); infer_instance; exact rfl; exact rfl; exact rfl; exact rfl; clear HO; intro w HO; (simp only [Act.put])))
                refine wpList_nil (thenQ_keep (HO.held (by with_reducible (repeat (first | exact List.nil_sublist _ | apply List.Sublist.cons_cons | apply List.Sublist.cons)))) ?_)
                repeat ((with_reducible apply wpSched_pure); exact rfl; exact rfl; (intro w'; go_simp; try with_reducible rfl); (simp only [Act.put, zA, zB, zC]))
                refine wpSched_end ?_
                go_wp2_with fail
                go_meet
                exact ⟨b8, rfl, by rw [HS.out]; exact HO⟩
            · (first | ((with_reducible apply wpList_boxAgg _ HO rfl); exact rfl; exact rfl; exact rfl; clear HO; intro b8 w HO; (simp only [Act.put, zA, zB, zC])) | ((with_reducible apply wpList_allocAgg _ HO rfl); exact rfl; infer_instance; exact rfl; clear HO; intro b8 w HO; (simp only [Act.put, zA, zB, zC])) | ((with_reducible apply wpList_boxOne _ HO rfl); exact rfl; (first | (simp [Act.eval]; rfl) | exact rfl); exact rfl; exact rfl; clear HO; intro b8 w HO; (simp only [Act.put, zA, zB, zC])) | ((with_reducible apply wpList_alloc _ HO rfl); exact rfl; infer_instance; exact rfl; exact rfl; clear HO; intro b8 w HO; (simp only [Act.put, zA, zB, zC])))
              refine wpList_nil (thenQ_keep (HO.held (by with_reducible (repeat (first | exact List.nil_sublist _ | apply List.Sublist.cons_cons | apply List.Sublist.cons)))) ?_)
              refine wpS_fin ?_
              ((with_reducible apply wpSched_loud); exact rfl; go_wp2_with ((go_at_call 131; go_must ((with_reducible refine (NA.out _ _ HO (by intro e he; repeat (first | exact he | apply List.mem_cons_of_mem))).mono ?_); rintro e w ⟨rfl, hb⟩; replace HO := HO.call hb; clear hb))))
              refine thenQ_keep (HO.held (by with_reducible (repeat (first | exact List.nil_sublist _ | apply List.Sublist.cons_cons | apply List.Sublist.cons)))) ?_
              repeat (first | ((with_reducible apply wpSched_loadAll); exact rfl; exact rfl; exact rfl; (repeat (with_reducible (first | exact At.head _ | apply At.tail))); infer_instance; exact rfl; exact rfl; (simp only [Act.put, zA, zB, zC])) | ((with_reducible apply wpSched_loadOne); exact rfl; exact rfl; exact rfl; (repeat (with_reducible (first | exact At.head _ | apply At.tail))); exact rfl; infer_instance; exact rfl; (simp only [Act.put, zA, zB, zC])) | ((with_reducible apply wpSched_loadPart); exact rfl; exact rfl; (first | (simp [Act.eval]; rfl) | exact rfl); (repeat (with_reducible (first | exact At.head _ | apply At.tail))); infer_instance; exact (Nat.le_of_ble_eq_true rfl); (simp only [List.drop_succ_cons, List.drop_zero, List.take_succ_cons, List.take_zero]; rfl); exact rfl; (simp only [Act.put, zA, zB, zC])) | ((with_reducible apply wpSched_pure); exact rfl; exact rfl; (intro w'; go_simp; try with_reducible rfl); (simp only [Act.put, zA, zB, zC])))
              ((with_reducible apply wpSched_loud); exact rfl; go_wp2_with ((go_at_call 131; go_must ((with_reducible refine (NB.out _ _ HO (by intro e he; repeat (first | exact he | apply List.mem_cons_of_mem))).mono ?_); rintro e w ⟨rfl, hb⟩; replace HO := HO.call hb; clear hb))))
              refine thenQ_keep (HO.held (by with_reducible (repeat (first | exact List.nil_sublist _ | apply List.Sublist.cons_cons | apply List.Sublist.cons)))) ?_
              repeat (first | ((with_reducible apply wpSched_loadAll); exact rfl; exact rfl; exact rfl; (repeat (with_reducible (first | exact At.head _ | apply At.tail))); infer_instance; exact rfl; exact rfl; (simp only [Act.put, zA, zB, zC])) | ((with_reducible apply wpSched_loadOne); exact rfl; exact rfl; exact rfl; (repeat (with_reducible (first | exact At.head _ | apply At.tail))); exact rfl; infer_instance; exact rfl; (simp only [Act.put, zA, zB, zC])) | ((with_reducible apply wpSched_loadPart); exact rfl; exact rfl; (first | (simp [Act.eval]; rfl) | exact rfl); (repeat (with_reducible (first | exact At.head _ | apply At.tail))); infer_instance; exact (Nat.le_of_ble_eq_true rfl); (simp only [List.drop_succ_cons, List.drop_zero, List.take_succ_cons, List.take_zero]; rfl); exact rfl; (simp only [Act.put, zA, zB, zC])) | ((with_reducible apply wpSched_pure); exact rfl; exact rfl; (intro w'; go_simp; try with_reducible rfl); (simp only [Act.put, zA, zB, zC])))
              ((with_reducible apply wpSched_loud); exact rfl; ((with_reducible apply wpList_storeAll HO); exact rfl; exact rfl; exact rfl; (repeat (with_reducible (first | exact At.head _ | apply At.tail))); infer_instance; exact rfl; exact rfl; exact rfl; exact rfl; clear HO; intro w HO; (simp only [Act.put])))
              refine wpList_nil (thenQ_keep (HO.held (by with_reducible (repeat (first | exact List.nil_sublist _ | apply List.Sublist.cons_cons | apply List.Sublist.cons)))) ?_)
              repeat ((with_reducible apply wpSched_pure); exact rfl; exact rfl; (intro w'; go_simp; try with_reducible rfl); (simp only [Act.put, zA, zB, zC]))
              refine wpSched_end ?_
              go_wp2_with fail
              go_meet
              exact ⟨b8, rfl, by rw [HS.out]; exact HO⟩
          · (first | ((with_reducible apply wpList_boxAgg _ HO rfl); exact rfl; exact rfl; exact rfl; clear HO; intro b8 w HO; (simp only [Act.put, zA, zB, zC])) | ((with_reducible apply wpList_allocAgg _ HO rfl); exact rfl; infer_instance; exact rfl; clear HO; intro b8 w HO; (simp only [Act.put, zA, zB, zC])) | ((with_reducible apply wpList_boxOne _ HO rfl); exact rfl; (first | (simp [Act.eval]; rfl) | exact rfl); exact rfl; exact rfl; clear HO; intro b8 w HO; (simp only [Act.put, zA, zB, zC])) | ((with_reducible apply wpList_alloc _ HO rfl); exact rfl; infer_instance; exact rfl; exact rfl; clear HO; intro b8 w HO; (simp only [Act.put, zA, zB, zC])))
            refine wpList_nil (thenQ_keep (HO.held (by with_reducible (repeat (first | exact List.nil_sublist _ | apply List.Sublist.cons_cons | apply List.Sublist.cons)))) ?_)
            refine wpS_fin ?_
            ((with_reducible apply wpSched_loud); exact rfl; go_wp2_with ((go_at_call 109; go_must ((with_reducible refine (I2.out _ HO.grown).mono ?_); rintro e w ⟨rfl, hb⟩; replace HO := HO.call hb; clear hb))))
            refine thenQ_keep (HO.held (by with_reducible (repeat (first | exact List.nil_sublist _ | apply List.Sublist.cons_cons | apply List.Sublist.cons)))) ?_
            repeat (first | ((with_reducible apply wpSched_loadAll); exact rfl; exact rfl; exact rfl; (repeat (with_reducible (first | exact At.head _ | apply At.tail))); infer_instance; exact rfl; exact rfl; (simp only [Act.put, zA, zB, zC])) | ((with_reducible apply wpSched_loadOne); exact rfl; exact rfl; exact rfl; (repeat (with_reducible (first | exact At.head _ | apply At.tail))); exact rfl; infer_instance; exact rfl; (simp only [Act.put, zA, zB, zC])) | ((with_reducible apply wpSched_loadPart); exact rfl; exact rfl; (first | (simp [Act.eval]; rfl) | exact rfl); (repeat (with_reducible (first | exact At.head _ | apply At.tail))); infer_instance; exact (Nat.le_of_ble_eq_true rfl); (simp only [List.drop_succ_cons, List.drop_zero, List.take_succ_cons, List.take_zero]; rfl); exact rfl; (simp only [Act.put, zA, zB, zC])) | ((with_reducible apply wpSched_pure); exact rfl; exact rfl; (intro w'; go_simp; try with_reducible rfl); (simp only [Act.put, zA, zB, zC])))
            ((with_reducible apply wpSched_loud); exact rfl; go_wp2_with ((go_at_call 131; go_must ((with_reducible refine (NA.out _ _ HO (by intro e he; repeat (first | exact he | apply List.mem_cons_of_mem))).mono ?_); rintro e w ⟨rfl, hb⟩; replace HO := HO.call hb; clear hb))))
            refine thenQ_keep (HO.held (by with_reducible (repeat (first | exact List.nil_sublist _ | apply List.Sublist.cons_cons | apply List.Sublist.cons)))) ?_
            repeat (first | ((with_reducible apply wpSched_loadAll); exact rfl; exact rfl; exact rfl; (repeat (with_reducible (first | exact At.head _ | apply At.tail))); infer_instance; exact rfl; exact rfl; (simp only [Act.put, zA, zB, zC])) | ((with_reducible apply wpSched_loadOne); exact rfl; exact rfl; exact rfl; (repeat (with_reducible (first | exact At.head _ | apply At.tail))); exact rfl; infer_instance; exact rfl; (simp only [Act.put, zA, zB, zC])) | ((with_reducible apply wpSched_loadPart); exact rfl; exact rfl; (first | (simp [Act.eval]; rfl) | exact rfl); (repeat (with_reducible (first | exact At.head _ | apply At.tail))); infer_instance; exact (Nat.le_of_ble_eq_true rfl); (simp only [List.drop_succ_cons, List.drop_zero, List.take_succ_cons, List.take_zero]; rfl); exact rfl; (simp only [Act.put, zA, zB, zC])) | ((with_reducible apply wpSched_pure); exact rfl; exact rfl; (intro w'; go_simp; try with_reducible rfl); (simp only [Act.put, zA, zB, zC])))
            ((with_reducible apply wpSched_loud); exact rfl; go_wp2_with ((go_at_call 131; go_must ((with_reducible refine (NB.out _ _ HO (by intro e he; repeat (first | exact he | apply List.mem_cons_of_mem))).mono ?_); rintro e w ⟨rfl, hb⟩; replace HO := HO.call hb; clear hb))))
            refine thenQ_keep (HO.held (by with_reducible (repeat (first | exact List.nil_sublist _ | apply List.Sublist.cons_cons | apply List.Sublist.cons)))) ?_
            repeat (first | ((with_reducible apply wpSched_loadAll); exact rfl; exact rfl; exact rfl; (repeat (with_reducible (first | exact At.head _ | apply At.tail))); infer_instance; exact rfl; exact rfl; (simp only [Act.put, zA, zB, zC])) | ((with_reducible apply wpSched_loadOne); exact rfl; exact rfl; exact rfl; (repeat (with_reducible (first | exact At.head _ | apply At.tail))); exact rfl; infer_instance; exact rfl; (simp only [Act.put, zA, zB, zC])) | ((with_reducible apply wpSched_loadPart); exact rfl; exact rfl; (first | (simp [Act.eval]; rfl) | exact rfl); (repeat (with_reducible (first | exact At.head _ | apply At.tail))); infer_instance; exact (Nat.le_of_ble_eq_true rfl); (simp only [List.drop_succ_cons, List.drop_zero, List.take_succ_cons, List.take_zero]; rfl); exact rfl; (simp only [Act.put, zA, zB, zC])) | ((with_reducible apply wpSched_pure); exact rfl; exact rfl; (intro w'; go_simp; try with_reducible rfl); (simp only [Act.put, zA, zB, zC])))
            ((with_reducible apply wpSched_loud); exact rfl; ((with_reducible apply wpList_storeAll HO); exact rfl; exact rfl; exact rfl; (repeat (with_reducible (first | exact At.head _ | apply At.tail))); infer_instance; exact rfl; exact rfl; exact rfl; exact rfl; clear HO; intro w HO; (simp only [Act.put])))
            refine wpList_nil (thenQ_keep (HO.held (by with_reducible (repeat (first | exact List.nil_sublist _ | apply List.Sublist.cons_cons | apply List.Sublist.cons)))) ?_)
            repeat ((with_reducible apply wpSched_pure); exact rfl; exact rfl; (intro w'; go_simp; try with_reducible rfl); (simp only [Act.put, zA, zB, zC]))
            refine wpSched_end ?_
            go_wp2_with fail
            go_meet
            exact ⟨b8, rfl, by rw [HS.out]; exact HO⟩
        · (first | ((with_reducible apply wpList_boxAgg _ HO rfl); exact rfl; exact rfl; exact rfl; clear HO; intro b8 w HO; (simp only [Act.put, zA, zB, zC])) | ((with_reducible apply wpList_allocAgg _ HO rfl); exact rfl; infer_instance; exact rfl; clear HO; intro b8 w HO; (simp only [Act.put, zA, zB, zC])) | ((with_reducible apply wpList_boxOne _ HO rfl); exact rfl; (first | (simp [Act.eval]; rfl) | exact rfl); exact rfl; exact rfl; clear HO; intro b8 w HO; (simp only [Act.put, zA, zB, zC])) | ((with_reducible apply wpList_alloc _ HO rfl); exact rfl; infer_instance; exact rfl; exact rfl; clear HO; intro b8 w HO; (simp only [Act.put, zA, zB, zC])))
          refine wpList_nil (thenQ_keep (HO.held (by with_reducible (repeat (first | exact List.nil_sublist _ | apply List.Sublist.cons_cons | apply List.Sublist.cons)))) ?_)
          refine wpS_fin ?_
          ((with_reducible apply wpSched_loud); exact rfl; go_wp2_with ((go_at_call 109; go_must ((with_reducible refine (I1.out _ HO.grown).mono ?_); rintro e w ⟨rfl, hb⟩; replace HO := HO.call hb; clear hb))))
          refine thenQ_keep (HO.held (by with_reducible (repeat (first | exact List.nil_sublist _ | apply List.Sublist.cons_cons | apply List.Sublist.cons)))) ?_
          repeat (first | ((with_reducible apply wpSched_loadAll); exact rfl; exact rfl; exact rfl; (repeat (with_reducible (first | exact At.head _ | apply At.tail))); infer_instance; exact rfl; exact rfl; (simp only [Act.put, zA, zB, zC])) | ((with_reducible apply wpSched_loadOne); exact rfl; exact rfl; exact rfl; (repeat (with_reducible (first | exact At.head _ | apply At.tail))); exact rfl; infer_instance; exact rfl; (simp only [Act.put, zA, zB, zC])) | ((with_reducible apply wpSched_loadPart); exact rfl; exact rfl; (first | (simp [Act.eval]; rfl) | exact rfl); (repeat (with_reducible (first | exact At.head _ | apply At.tail))); infer_instance; exact (Nat.le_of_ble_eq_true rfl); (simp only [List.drop_succ_cons, List.drop_zero, List.take_succ_cons, List.take_zero]; rfl); exact rfl; (simp only [Act.put, zA, zB, zC])) | ((with_reducible apply wpSched_pure); exact rfl; exact rfl; (intro w'; go_simp; try with_reducible rfl); (simp only [Act.put, zA, zB, zC])))
          ((with_reducible apply wpSched_loud); exact rfl; go_wp2_with ((go_at_call 109; go_must ((with_reducible refine (I2.out _ HO.grown).mono ?_); rintro e w ⟨rfl, hb⟩; replace HO := HO.call hb; clear hb))))
          refine thenQ_keep (HO.held (by with_reducible (repeat (first | exact List.nil_sublist _ | apply List.Sublist.cons_cons | apply List.Sublist.cons)))) ?_
          repeat (first | ((with_reducible apply wpSched_loadAll); exact rfl; exact rfl; exact rfl; (repeat (with_reducible (first | exact At.head _ | apply At.tail))); infer_instance; exact rfl; exact rfl; (simp only [Act.put, zA, zB, zC])) | ((with_reducible apply wpSched_loadOne); exact rfl; exact rfl; exact rfl; (repeat (with_reducible (first | exact At.head _ | apply At.tail))); exact rfl; infer_instance; exact rfl; (simp only [Act.put, zA, zB, zC])) | ((with_reducible apply wpSched_loadPart); exact rfl; exact rfl; (first | (simp [Act.eval]; rfl) | exact rfl); (repeat (with_reducible (first | exact At.head _ | apply At.tail))); infer_instance; exact (Nat.le_of_ble_eq_true rfl); (simp only [List.drop_succ_cons, List.drop_zero, List.take_succ_cons, List.take_zero]; rfl); exact rfl; (simp only [Act.put, zA, zB, zC])) | ((with_reducible apply wpSched_pure); exact rfl; exact rfl; (intro w'; go_simp; try with_reducible rfl); (simp only [Act.put, zA, zB, zC])))
          ((with_reducible apply wpSched_loud); exact rfl; go_wp2_with ((go_at_call 131; go_must ((with_reducible refine (NA.out _ _ HO (by intro e he; repeat (first | exact he | apply List.mem_cons_of_mem))).mono ?_); rintro e w ⟨rfl, hb⟩; replace HO := HO.call hb; clear hb))))
          refine thenQ_keep (HO.held (by with_reducible (repeat (first | exact List.nil_sublist _ | apply List.Sublist.cons_cons | apply List.Sublist.cons)))) ?_
          repeat (first | ((with_reducible apply wpSched_loadAll); exact rfl; exact rfl; exact rfl; (repeat (with_reducible (first | exact At.head _ | apply At.tail))); infer_instance; exact rfl; exact rfl; (simp only [Act.put, zA, zB, zC])) | ((with_reducible apply wpSched_loadOne); exact rfl; exact rfl; exact rfl; (repeat (with_reducible (first | exact At.head _ | apply At.tail))); exact rfl; infer_instance; exact rfl; (simp only [Act.put, zA, zB, zC])) | ((with_reducible apply wpSched_loadPart); exact rfl; exact rfl; (first | (simp [Act.eval]; rfl) | exact rfl); (repeat (with_reducible (first | exact At.head _ | apply At.tail))); infer_instance; exact (Nat.le_of_ble_eq_true rfl); (simp only [List.drop_succ_cons, List.drop_zero, List.take_succ_cons, List.take_zero]; rfl); exact rfl; (simp only [Act.put, zA, zB, zC])) | ((with_reducible apply wpSched_pure); exact rfl; exact rfl; (intro w'; go_simp; try with_reducible rfl); (simp only [Act.put, zA, zB, zC])))
          ((with_reducible apply wpSched_loud); exact rfl; go_wp2_with ((go_at_call 131; go_must ((with_reducible refine (NB.out _ _ HO (by intro e he; repeat (first | exact he | apply List.mem_cons_of_mem))).mono ?_); rintro e w ⟨rfl, hb⟩; replace HO := HO.call hb; clear hb))))
          refine thenQ_keep (HO.held (by with_reducible (repeat (first | exact List.nil_sublist _ | apply List.Sublist.cons_cons | apply List.Sublist.cons)))) ?_
          repeat (first | ((with_reducible apply wpSched_loadAll); exact rfl; exact rfl; exact rfl; (repeat (with_reducible (first | exact At.head _ | apply At.tail))); infer_instance; exact rfl; exact rfl; (simp only [Act.put, zA, zB, zC])) | ((with_reducible apply wpSched_loadOne); exact rfl; exact rfl; exact rfl; (repeat (with_reducible (first | exact At.head _ | apply At.tail))); exact rfl; infer_instance; exact rfl; (simp only [Act.put, zA, zB, zC])) | ((with_reducible apply wpSched_loadPart); exact rfl; exact rfl; (first | (simp [Act.eval]; rfl) | exact rfl); (repeat (with_reducible (first | exact At.head _ | apply At.tail))); infer_instance; exact (Nat.le_of_ble_eq_true rfl); (simp only [List.drop_succ_cons, List.drop_zero, List.take_succ_cons, List.take_zero]; rfl); exact rfl; (simp only [Act.put, zA, zB, zC])) | ((with_reducible apply wpSched_pure); exact rfl; exact rfl; (intro w'; go_simp; try with_reducible rfl); (simp only [Act.put, zA, zB, zC])))
          ((with_reducible apply wpSched_loud); exact rfl; ((with_reducible apply wpList_storeAll HO); exact rfl; exact rfl; exact rfl; (repeat (with_reducible (first | exact At.head _ | apply At.tail))); infer_instance; exact rfl; exact rfl; exact rfl; exact rfl; clear HO; intro w HO; (simp only [Act.put])))
          refine wpList_nil (thenQ_keep (HO.held (by with_reducible (repeat (first | exact List.nil_sublist _ | apply List.Sublist.cons_cons | apply List.Sublist.cons)))) ?_)
          repeat ((with_reducible apply wpSched_pure); exact rfl; exact rfl; (intro w'; go_simp; try with_reducible rfl); (simp only [Act.put, zA, zB, zC]))
          refine wpSched_end ?_
          go_wp2_with fail
          go_meet
          exact ⟨b8, rfl, by rw [HS.out]; exact HO⟩

      clear HO NA NB I2 I1 HS a1 a2 a3 a1' a2' a3' q1 q2 z1 z2
      obtain ⟨b8, rfl, HO⟩ := hcut
      have PO1 := fun x hx (w : World) (L : List Ent) (L' : Value → List Ent) (h : Own W w L) hat => bkPost_any (W := W) (w := w) (L := L) (L' := L') (b := ak) (v := u) (pm := apm) (bm := abm) (l := Px) ⟨id9, (k : Int) + 1, 2, 1, x⟩ h hat hpk.1 (hwp x hx) (by omega)
      have PO2 := fun x hx (w : World) (L : List Ent) (L' : Value → List Ent) (h : Own W w L) hat => bkPost_any (W := W) (w := w) (L := L) (L' := L') (b := ak) (v := u) (pm := apm) (bm := abm) (l := Px) ⟨id9, (k : Int) + 1, 1, 2, x⟩ h hat hpk.1 (hwq x hx) (by omega)
      simp only [pstV, pstC] at PO1 PO2
      rw [HSP.out] at hnx
      clear HSP hwp hwq hpk
      by_cases c0 : nb - na = 0
      · rw [if_pos c0] at hnx
        obtain rfl := hnx.out
        have c1 : ¬ nb - na < 0 := by omega
        have c2 : ¬ 0 < nb - na := by omega
        clear PO1 PO2 hwr
        go_wp2_with (first | go_big_skip | (first | go_big_skip | ((with_reducible apply wpList_loadAll HO); exact rfl; exact rfl; (repeat (with_reducible (first | exact At.head _ | apply At.tail))); infer_instance; exact rfl; exact rfl; (simp only [Act.put, zA, zB, zC])) | ((with_reducible apply wpList_loadOne HO); exact rfl; exact rfl; (repeat (with_reducible (first | exact At.head _ | apply At.tail))); exact rfl; infer_instance; exact rfl; (simp only [Act.put, zA, zB, zC]))) | ((with_reducible apply wpList_storeOne HO); exact rfl; exact rfl; (first | (simp [Act.eval]; rfl) | exact rfl); exact rfl; (repeat (with_reducible (first | exact At.head _ | apply At.tail))); infer_instance; exact (by simp); (simp only [List.set_cons_succ, List.set_cons_zero]; rfl); exact rfl; clear HO; intro w HO; (simp only [Act.put])))
        replace HO := HO.tail
        go_roundw
        case rel => exact ⟨k + 1, hk60, by go_num, u, by rw [hPy]; exact HO⟩
        case measure => simp [intOf] <;> omega
      rw [if_neg c0] at hnx
      by_cases c1 : nb - na < 0
      · rw [if_pos c1] at hnx
        obtain rfl := hnx.out
        have PO := PO2 (-(nb - na)) (inI_iff.2 (by omega))
        have c2 : 0 < -(nb - na) := by omega
        clear PO1 PO2 hwr
        go_upto_region 11 with (first | go_big_skip | (first | go_big_skip | ((with_reducible apply wpList_loadAll HO); exact rfl; exact rfl; (repeat (with_reducible (first | exact At.head _ | apply At.tail))); infer_instance; exact rfl; exact rfl; (simp only [Act.put, zA, zB, zC])) | ((with_reducible apply wpList_loadOne HO); exact rfl; exact rfl; (repeat (with_reducible (first | exact At.head _ | apply At.tail))); exact rfl; infer_instance; exact rfl; (simp only [Act.put, zA, zB, zC]))) | ((with_reducible apply wpList_storeOne HO); exact rfl; exact rfl; (first | (simp [Act.eval]; rfl) | exact rfl); exact rfl; (repeat (with_reducible (first | exact At.head _ | apply At.tail))); infer_instance; exact (by simp); (simp only [List.set_cons_succ, List.set_cons_zero]; rfl); exact rfl; clear HO; intro w HO; (simp only [Act.put])))
        refine region_sched2 ([box b8 (.cells #[.string id9, .int .i64 ((k : Int) + 1), .int .i64 1, .int .i64 2, .int .i64 (-(nb - na))] 187), box ac (.cells #[av, .pointer (some ⟨ak, 0, none⟩), .int .i64 A.p0, .int .i64 A.q0, i.v0, .int .i64 A.p1, .int .i64 A.q1, i.v1, .int .i64 A.p2, .int .i64 A.q2, i.v2, i.m] 143)]) [(0, true), (1, true), (2, true), (3, true), (4, true), (5, false)] HO (by with_reducible (repeat (first | exact List.nil_sublist _ | apply List.Sublist.cons_cons | apply List.Sublist.cons))) (by kernel_rfl) (by kernel_rfl) ?_
        clear HO
        intro w HO
        repeat (first | ((with_reducible apply wpSched_loadOne); exact rfl; exact rfl; exact rfl; (repeat (with_reducible (first | exact At.head _ | apply At.tail))); exact rfl; infer_instance; exact rfl; (simp only [Act.put, zA, zB, zC])) | ((with_reducible apply wpSched_loadAll); exact rfl; exact rfl; exact rfl; (repeat (with_reducible (first | exact At.head _ | apply At.tail))); infer_instance; exact rfl; exact rfl; (simp only [Act.put, zA, zB, zC])) | ((with_reducible apply wpSched_pure); exact rfl; exact rfl; (intro w'; go_simp; try with_reducible rfl); (simp only [Act.put, zA, zB, zC])))
        ((with_reducible apply wpSched_loud); exact rfl; go_wp2_with ((go_at_call 111; go_must ((have h9 := PO _ _ _ HO (by intro v9; (repeat (with_reducible (first | exact At.head _ | apply At.tail))))); (with_reducible refine h9.mono ?_); clear h9 HO; rintro e w ⟨rfl, u9, HO⟩))))
        refine thenQ_free (by kernel_rfl) ?_
        refine wpSched_end ?_
        go_wp2_with fail
        replace HO := HO.tail
        go_roundw
        case rel => exact ⟨k + 1, hk60, by go_num, u9, by rw [hPy]; exact HO⟩
        case measure => simp [intOf] <;> omega
      · rw [if_neg c1] at hnx
        obtain rfl := hnx.out
        have PO := PO1 (nb - na) (inI_iff.2 (by omega))
        have c2 : 0 < nb - na := by omega
        clear PO1 PO2 hwr
        go_upto_region 11 with (first | go_big_skip | (first | go_big_skip | ((with_reducible apply wpList_loadAll HO); exact rfl; exact rfl; (repeat (with_reducible (first | exact At.head _ | apply At.tail))); infer_instance; exact rfl; exact rfl; (simp only [Act.put, zA, zB, zC])) | ((with_reducible apply wpList_loadOne HO); exact rfl; exact rfl; (repeat (with_reducible (first | exact At.head _ | apply At.tail))); exact rfl; infer_instance; exact rfl; (simp only [Act.put, zA, zB, zC]))) | ((with_reducible apply wpList_storeOne HO); exact rfl; exact rfl; (first | (simp [Act.eval]; rfl) | exact rfl); exact rfl; (repeat (with_reducible (first | exact At.head _ | apply At.tail))); infer_instance; exact (by simp); (simp only [List.set_cons_succ, List.set_cons_zero]; rfl); exact rfl; clear HO; intro w HO; (simp only [Act.put])))
        refine region_sched2 ([box b8 (.cells #[.string id9, .int .i64 ((k : Int) + 1), .int .i64 2, .int .i64 1, .int .i64 (nb - na)] 187), box ac (.cells #[av, .pointer (some ⟨ak, 0, none⟩), .int .i64 A.p0, .int .i64 A.q0, i.v0, .int .i64 A.p1, .int .i64 A.q1, i.v1, .int .i64 A.p2, .int .i64 A.q2, i.v2, i.m] 143)]) [(0, true), (1, true), (2, true), (3, true), (4, true), (5, false)] HO (by with_reducible (repeat (first | exact List.nil_sublist _ | apply List.Sublist.cons_cons | apply List.Sublist.cons))) (by kernel_rfl) (by kernel_rfl) ?_
        clear HO
        intro w HO
        repeat (first | ((with_reducible apply wpSched_loadOne); exact rfl; exact rfl; exact rfl; (repeat (with_reducible (first | exact At.head _ | apply At.tail))); exact rfl; infer_instance; exact rfl; (simp only [Act.put, zA, zB, zC])) | ((with_reducible apply wpSched_loadAll); exact rfl; exact rfl; exact rfl; (repeat (with_reducible (first | exact At.head _ | apply At.tail))); infer_instance; exact rfl; exact rfl; (simp only [Act.put, zA, zB, zC])) | ((with_reducible apply wpSched_pure); exact rfl; exact rfl; (intro w'; go_simp; try with_reducible rfl); (simp only [Act.put, zA, zB, zC])))
        ((with_reducible apply wpSched_loud); exact rfl; go_wp2_with ((go_at_call 111; go_must ((have h9 := PO _ _ _ HO (by intro v9; (repeat (with_reducible (first | exact At.head _ | apply At.tail))))); (with_reducible refine h9.mono ?_); clear h9 HO; rintro e w ⟨rfl, u9, HO⟩))))
        refine thenQ_free (by kernel_rfl) ?_
        refine wpSched_end ?_
        go_wp2_with fail
        replace HO := HO.tail
        go_roundw
        case rel => exact ⟨k + 1, hk60, by go_num, u9, by rw [hPy]; exact HO⟩
        case measure => simp [intOf] <;> omega
end Go.Proofs.YtibabfedpdoofaaGreatDoor
namespace Go.Proofs.YtibabfedpdoofaaGreatDoor
open Go.RowKit Go.Own

structure EntS where
  k : Int
  id : Int
  ref : List UInt8
  sku : List UInt8
  qty : Int
  amt : Int
  o : Int
  d : Int
  c : Int
  p : Int
  q : Int
  rs : List RowS
theorem five (k : Int) : k = 1 ∨ k = 2 ∨ k = 3 ∨ k = 4 ∨ (k ≠ 1 ∧ k ≠ 2 ∧ k ≠ 3 ∧ k ≠ 4) := by omega

end Go.Proofs.YtibabfedpdoofaaGreatDoor
namespace Go.Proofs.YtibabfedpdoofaaGreatDoor
open Go.RowKit Go.Own Go.Maps

def EntS.ord (x : EntS) : OrdS := ⟨x.id, x.ref, x.sku, x.qty, x.amt⟩
def applyE (S : CoS) (A : InS) (x : EntS) : Int := if x.k = 1 then placeE S.L x.ord else if x.k = 2 then stopE S.L x.o else if x.k = 3 then replyE S.L x.o x.d x.c else if x.k = 4 then accE A x.p x.q x.rs else 2
def applyS (S : CoS) (A : InS) (x : EntS) : CoS := if x.k = 1 then { S with L := placeL S.L x.ord } else if x.k = 2 then { S with L := stopL S.L x.o } else if x.k = 3 then replyS S x.o x.d x.c else
  if x.k = 4 then (if accE A x.p x.q x.rs = 0 then { S with P := stmtP S.P (byI A (A.put x.p x.q x.rs)) x.q 60 } else S) else S
def applyI (A : InS) (x : EntS) : InS := if x.k = 4 ∧ accE A x.p x.q x.rs = 0 then A.put x.p x.q x.rs else A
/-- Entries as they come. -/
structure EntW (W : World) (M : List Ent) (x : EntS) (v : Value) : Prop where
  rows : RowsIn W M v x.rs
  ref : x.ref.length ≤ maxLen
  sku : x.sku.length ≤ maxLen
  o : inI x.o = true

set_option maxHeartbeats 16000000 in
set_option maxRecDepth 100000 in
theorem coApply_any {W w : World} {M : List Ent} {a : CoA} {S : CoS} {i : InA} {A : InS} {v : Value} (x : EntS) (HO : Own W w (coPs a S i A ++ (inPs i A ++ M))) (hx : EntW W M x v) (hA : InOk A) (hok : CoOk S) (hlen : S.P.length ≤ 99000) (hL : LaidE W) :
    Calls Tryz.prog 27 #[.pointer (some ⟨a.c, 0, none⟩), .agg #[.int .i64 (x).k, .int .i64 (x).id, .string ⟨(x).ref.toArray⟩, .string ⟨(x).sku.toArray⟩, .int .i64 (x).qty, .int .i64 (x).amt, .int .i64 (x).o, .int .i64 (x).d, .int .i64 (x).c, .int .i64 (x).p, .int .i64 (x).q, v]] w fun e w' => e = .returned (.int .i64 (applyE S A x)) ∧ ∃ u' v' i', (x.k ≠ 4 → i' = i) ∧ Own W w' (coPs { a with u := u', v := v' } (applyS S A x) i' (applyI A x) ++ (inPs i' (applyI A x) ++ M)) := by
  have hpm := fun (Z x y z : Ent) (N : List Ent) => (List.perm_append_comm (l₁ := [Z]) (l₂ := [x, y, z])).append_right N
  have NN := fun (Z : Ent) (w : World) (h : Own W w (Z :: (coPs a S i A ++ (inPs i A ++ M)))) => coNone_any (Own.coAt h (a := a) (S := S) (i := i) (A := A) (by repeat (first | exact List.mem_cons_self | apply List.mem_cons_of_mem)) (by repeat (first | exact List.mem_cons_self | apply List.mem_cons_of_mem)) (by repeat (first | exact List.mem_cons_self | apply List.mem_cons_of_mem)))
  have PL : ∀ (Z : Ent) (w : World), Own W w (Z :: (coPs a S i A ++ (inPs i A ++ M))) → Calls Tryz.prog 79 #[.pointer (some ⟨a.c, 0, none⟩), .agg #[.int .i64 x.id, .string ⟨x.ref.toArray⟩, .string ⟨x.sku.toArray⟩, .int .i64 x.qty, .int .i64 x.amt]] w fun e w' => e = .returned (.int .i64 (placeE S.L x.ord)) ∧ ∃ v', Own W w' (coPs { a with v := v' } { S with L := placeL S.L x.ord } i A ++ (Z :: (inPs i A ++ M))) :=
    fun Z w h => coPlace_any x.ord (M := Z :: (inPs i A ++ M)) (h.perm (hpm _ _ _ _ _)) hok.len hx.ref hx.sku
  have ST := fun (Z : Ent) (w : World) (h : Own W w (Z :: (coPs a S i A ++ (inPs i A ++ M)))) => coStop_any x.o (M := Z :: (inPs i A ++ M)) (h.perm (hpm _ _ _ _ _)) hx.o
  have RP := fun (Z : Ent) (w : World) (h : Own W w (Z :: (coPs a S i A ++ (inPs i A ++ M)))) => coReply_any x.o x.d x.c (M := Z :: (inPs i A ++ M)) (h.perm (hpm _ _ _ _ _)) hx.o hok (by omega) hL
  have h7 := fun (Z a b c d e f g : Ent) (N : List Ent) => (List.perm_append_comm (l₁ := [Z]) (l₂ := [a, b, c, d, e, f, g])).append_right N
  have SN := fun (hn : accE A x.p x.q x.rs ≠ 0) (Z : Ent) (w : World) (h : Own W w (Z :: (coPs a S i A ++ (inPs i A ++ M)))) => coStmt_no x.p x.q x.rs (M := Z :: M) (h.perm (h7 _ _ _ _ _ _ _ _ _)) (hx.rows.more Z) hA hL hn
  have SY := fun (hn : accE A x.p x.q x.rs = 0) (Z : Ent) (w : World) (h : Own W w (Z :: (coPs a S i A ++ (inPs i A ++ M)))) => coStmt_yes x.p x.q x.rs (M := Z :: M) (h.perm (h7 _ _ _ _ _ _ _ _ _)) (hx.rows.more Z) hA hok hlen hL hn
  obtain ⟨vp, vc, rfl, -⟩ := (hx.rows _ _ HO (fun e he => List.mem_append_right _ (List.mem_append_right _ he))).slice
  clear hpm h7
  rcases five x.k with hk | hk | hk | hk | ⟨h1, h2, h3, h4⟩
  · rw [show applyE S A x = placeE S.L x.ord by unfold applyE; rw [if_pos hk]]
    rw [show applyS S A x = { S with L := placeL S.L x.ord } by unfold applyS; rw [if_pos hk]]
    rw [show applyI A x = A by unfold applyI; rw [if_neg (by rw [hk]; simp)]]
    clear ST RP SN SY
    go_enter Tryz.func27, Tryz.ntmps27
    go_wp2_with (first | go_big_skip | (first | go_big_skip | ((with_reducible apply wpList_loadAll HO); exact rfl; exact rfl; (repeat (with_reducible (first | exact At.head _ | apply At.tail))); infer_instance; exact rfl; exact rfl; (simp only [Act.put, zA, zB, zC])) | ((with_reducible apply wpList_loadOne HO); exact rfl; exact rfl; (repeat (with_reducible (first | exact At.head _ | apply At.tail))); exact rfl; infer_instance; exact rfl; (simp only [Act.put, zA, zB, zC]))) | ((with_reducible apply wpList_storeAll HO); exact rfl; exact rfl; exact rfl; (repeat (with_reducible (first | exact At.head _ | apply At.tail))); infer_instance; exact rfl; exact rfl; exact rfl; exact rfl; clear HO; intro w HO; (simp only [Act.put])) | (first | ((with_reducible apply wpList_boxAgg _ HO rfl); exact rfl; exact rfl; exact rfl; clear HO; intro b1 w HO; (simp only [Act.put, zA, zB, zC])) | ((with_reducible apply wpList_allocAgg _ HO rfl); exact rfl; infer_instance; exact rfl; clear HO; intro b1 w HO; (simp only [Act.put, zA, zB, zC]))) | ((with_reducible apply wpList_loadPart HO); exact rfl; exact rfl; (repeat (with_reducible (first | exact At.head _ | apply At.tail))); infer_instance; exact (Nat.le_of_ble_eq_true rfl); (simp only [List.drop_succ_cons, List.drop_zero, List.take_succ_cons, List.take_zero]; rfl); exact rfl; (simp only [Act.put, zA, zB, zC])) | (go_at_call 66; go_must ((with_reducible refine (NN _ _ HO).mono ?_); rintro e w ⟨rfl, hb⟩; replace HO := HO.call hb; clear hb)) | (go_at_call 79; go_must ((with_reducible refine (PL _ _ HO).mono ?_); clear HO; rintro e w ⟨rfl, v', HO⟩)))
    go_ret
    exact ⟨rfl, a.u, v', i, fun _ => rfl, HO.sub (by exact .cons_cons _ (.cons_cons _ (.cons_cons _ (.cons _ (List.Sublist.refl _)))))⟩
  · rw [show applyE S A x = stopE S.L x.o by unfold applyE; rw [if_neg (by omega), if_pos hk]]
    rw [show applyS S A x = { S with L := stopL S.L x.o } by unfold applyS; rw [if_neg (by omega), if_pos hk]]
    rw [show applyI A x = A by unfold applyI; rw [if_neg (by rw [hk]; simp)]]
    clear PL RP SN SY
    go_enter Tryz.func27, Tryz.ntmps27
    go_wp2_with (first | go_big_skip | (first | go_big_skip | ((with_reducible apply wpList_loadAll HO); exact rfl; exact rfl; (repeat (with_reducible (first | exact At.head _ | apply At.tail))); infer_instance; exact rfl; exact rfl; (simp only [Act.put, zA, zB, zC])) | ((with_reducible apply wpList_loadOne HO); exact rfl; exact rfl; (repeat (with_reducible (first | exact At.head _ | apply At.tail))); exact rfl; infer_instance; exact rfl; (simp only [Act.put, zA, zB, zC]))) | ((with_reducible apply wpList_storeAll HO); exact rfl; exact rfl; exact rfl; (repeat (with_reducible (first | exact At.head _ | apply At.tail))); infer_instance; exact rfl; exact rfl; exact rfl; exact rfl; clear HO; intro w HO; (simp only [Act.put])) | (first | ((with_reducible apply wpList_boxAgg _ HO rfl); exact rfl; exact rfl; exact rfl; clear HO; intro b1 w HO; (simp only [Act.put, zA, zB, zC])) | ((with_reducible apply wpList_allocAgg _ HO rfl); exact rfl; infer_instance; exact rfl; clear HO; intro b1 w HO; (simp only [Act.put, zA, zB, zC]))) | ((with_reducible apply wpList_loadPart HO); exact rfl; exact rfl; (repeat (with_reducible (first | exact At.head _ | apply At.tail))); infer_instance; exact (Nat.le_of_ble_eq_true rfl); (simp only [List.drop_succ_cons, List.drop_zero, List.take_succ_cons, List.take_zero]; rfl); exact rfl; (simp only [Act.put, zA, zB, zC])) | (go_at_call 66; go_must ((with_reducible refine (NN _ _ HO).mono ?_); rintro e w ⟨rfl, hb⟩; replace HO := HO.call hb; clear hb)) | (go_at_call 80; go_must ((with_reducible refine (ST _ _ HO).mono ?_); clear HO; rintro e w ⟨rfl, HO⟩)))
    go_ret
    exact ⟨rfl, a.u, a.v, i, fun _ => rfl, HO.sub (by exact .cons_cons _ (.cons_cons _ (.cons_cons _ (.cons _ (List.Sublist.refl _)))))⟩
  · rw [show applyE S A x = replyE S.L x.o x.d x.c by unfold applyE; rw [if_neg (by omega), if_neg (by omega), if_pos hk]]
    rw [show applyS S A x = replyS S x.o x.d x.c by unfold applyS; rw [if_neg (by omega), if_neg (by omega), if_pos hk]]
    rw [show applyI A x = A by unfold applyI; rw [if_neg (by rw [hk]; simp)]]
    clear PL ST SN SY
    go_enter Tryz.func27, Tryz.ntmps27
    go_wp2_with (first | go_big_skip | (first | go_big_skip | ((with_reducible apply wpList_loadAll HO); exact rfl; exact rfl; (repeat (with_reducible (first | exact At.head _ | apply At.tail))); infer_instance; exact rfl; exact rfl; (simp only [Act.put, zA, zB, zC])) | ((with_reducible apply wpList_loadOne HO); exact rfl; exact rfl; (repeat (with_reducible (first | exact At.head _ | apply At.tail))); exact rfl; infer_instance; exact rfl; (simp only [Act.put, zA, zB, zC]))) | ((with_reducible apply wpList_storeAll HO); exact rfl; exact rfl; exact rfl; (repeat (with_reducible (first | exact At.head _ | apply At.tail))); infer_instance; exact rfl; exact rfl; exact rfl; exact rfl; clear HO; intro w HO; (simp only [Act.put])) | (first | ((with_reducible apply wpList_boxAgg _ HO rfl); exact rfl; exact rfl; exact rfl; clear HO; intro b1 w HO; (simp only [Act.put, zA, zB, zC])) | ((with_reducible apply wpList_allocAgg _ HO rfl); exact rfl; infer_instance; exact rfl; clear HO; intro b1 w HO; (simp only [Act.put, zA, zB, zC]))) | ((with_reducible apply wpList_loadPart HO); exact rfl; exact rfl; (repeat (with_reducible (first | exact At.head _ | apply At.tail))); infer_instance; exact (Nat.le_of_ble_eq_true rfl); (simp only [List.drop_succ_cons, List.drop_zero, List.take_succ_cons, List.take_zero]; rfl); exact rfl; (simp only [Act.put, zA, zB, zC])) | (go_at_call 66; go_must ((with_reducible refine (NN _ _ HO).mono ?_); rintro e w ⟨rfl, hb⟩; replace HO := HO.call hb; clear hb)) | (go_at_call 81; go_must ((with_reducible refine (RP _ _ HO).mono ?_); clear HO; rintro e w ⟨rfl, u', HO⟩)))
    go_ret
    exact ⟨rfl, u', a.v, i, fun _ => rfl, HO.sub (by exact .cons_cons _ (.cons_cons _ (.cons_cons _ (.cons _ (List.Sublist.refl _)))))⟩
  · rw [show applyE S A x = accE A x.p x.q x.rs by unfold applyE; rw [if_neg (by omega), if_neg (by omega), if_neg (by omega), if_pos hk]]
    by_cases hn : accE A x.p x.q x.rs = 0
    · rw [show applyS S A x = { S with P := stmtP S.P (byI A (A.put x.p x.q x.rs)) x.q 60 } by unfold applyS; rw [if_neg (by omega), if_neg (by omega), if_neg (by omega), if_pos hk, if_pos hn]]
      rw [show applyI A x = A.put x.p x.q x.rs by unfold applyI; rw [if_pos ⟨hk, hn⟩]]
      have SY := SY hn
      rw [hn]
      clear PL ST SN RP
      go_enter Tryz.func27, Tryz.ntmps27
      go_wp2_with (first | go_big_skip | (first | go_big_skip | ((with_reducible apply wpList_loadAll HO); exact rfl; exact rfl; (repeat (with_reducible (first | exact At.head _ | apply At.tail))); infer_instance; exact rfl; exact rfl; (simp only [Act.put, zA, zB, zC])) | ((with_reducible apply wpList_loadOne HO); exact rfl; exact rfl; (repeat (with_reducible (first | exact At.head _ | apply At.tail))); exact rfl; infer_instance; exact rfl; (simp only [Act.put, zA, zB, zC]))) | ((with_reducible apply wpList_storeAll HO); exact rfl; exact rfl; exact rfl; (repeat (with_reducible (first | exact At.head _ | apply At.tail))); infer_instance; exact rfl; exact rfl; exact rfl; exact rfl; clear HO; intro w HO; (simp only [Act.put])) | (first | ((with_reducible apply wpList_boxAgg _ HO rfl); exact rfl; exact rfl; exact rfl; clear HO; intro b1 w HO; (simp only [Act.put, zA, zB, zC])) | ((with_reducible apply wpList_allocAgg _ HO rfl); exact rfl; infer_instance; exact rfl; clear HO; intro b1 w HO; (simp only [Act.put, zA, zB, zC]))) | ((with_reducible apply wpList_loadPart HO); exact rfl; exact rfl; (repeat (with_reducible (first | exact At.head _ | apply At.tail))); infer_instance; exact (Nat.le_of_ble_eq_true rfl); (simp only [List.drop_succ_cons, List.drop_zero, List.take_succ_cons, List.take_zero]; rfl); exact rfl; (simp only [Act.put, zA, zB, zC])) | (go_at_call 66; go_must ((with_reducible refine (NN _ _ HO).mono ?_); rintro e w ⟨rfl, hb⟩; replace HO := HO.call hb; clear hb)) | (go_at_call 82; go_must ((with_reducible refine (SY _ _ HO).mono ?_); clear HO; rintro e w ⟨rfl, u', i', HO⟩)))
      go_ret
      exact ⟨rfl, u', a.v, i', fun h => absurd hk h, HO.sub (by exact .cons_cons _ (.cons_cons _ (.cons_cons _ (.cons_cons _ (.cons_cons _ (.cons_cons _ (.cons_cons _ (.cons _ (List.Sublist.refl _)))))))))⟩
    · rw [show applyS S A x = S by unfold applyS; rw [if_neg (by omega), if_neg (by omega), if_neg (by omega), if_pos hk, if_neg hn]]
      rw [show applyI A x = A by unfold applyI; rw [if_neg (fun h => hn h.2)]]
      have SN := SN hn
      clear PL ST SY RP
      generalize accE A x.p x.q x.rs = ex at *
      go_enter Tryz.func27, Tryz.ntmps27
      go_wp2_with (first | go_big_skip | (first | go_big_skip | ((with_reducible apply wpList_loadAll HO); exact rfl; exact rfl; (repeat (with_reducible (first | exact At.head _ | apply At.tail))); infer_instance; exact rfl; exact rfl; (simp only [Act.put, zA, zB, zC])) | ((with_reducible apply wpList_loadOne HO); exact rfl; exact rfl; (repeat (with_reducible (first | exact At.head _ | apply At.tail))); exact rfl; infer_instance; exact rfl; (simp only [Act.put, zA, zB, zC]))) | ((with_reducible apply wpList_storeAll HO); exact rfl; exact rfl; exact rfl; (repeat (with_reducible (first | exact At.head _ | apply At.tail))); infer_instance; exact rfl; exact rfl; exact rfl; exact rfl; clear HO; intro w HO; (simp only [Act.put])) | (first | ((with_reducible apply wpList_boxAgg _ HO rfl); exact rfl; exact rfl; exact rfl; clear HO; intro b1 w HO; (simp only [Act.put, zA, zB, zC])) | ((with_reducible apply wpList_allocAgg _ HO rfl); exact rfl; infer_instance; exact rfl; clear HO; intro b1 w HO; (simp only [Act.put, zA, zB, zC]))) | ((with_reducible apply wpList_loadPart HO); exact rfl; exact rfl; (repeat (with_reducible (first | exact At.head _ | apply At.tail))); infer_instance; exact (Nat.le_of_ble_eq_true rfl); (simp only [List.drop_succ_cons, List.drop_zero, List.take_succ_cons, List.take_zero]; rfl); exact rfl; (simp only [Act.put, zA, zB, zC])) | (go_at_call 66; go_must ((with_reducible refine (NN _ _ HO).mono ?_); rintro e w ⟨rfl, hb⟩; replace HO := HO.call hb; clear hb)) | (go_at_call 82; go_must ((with_reducible refine (SN _ _ HO).mono ?_); clear HO; rintro e w ⟨rfl, HO⟩)))
      go_ret
      exact ⟨rfl, a.u, a.v, i, fun _ => rfl, HO.sub (by exact .cons_cons _ (.cons_cons _ (.cons_cons _ (.cons_cons _ (.cons_cons _ (.cons_cons _ (.cons_cons _ (.cons _ (List.Sublist.refl _)))))))))⟩
  · rw [show applyE S A x = 2 by unfold applyE; rw [if_neg h1, if_neg h2, if_neg h3, if_neg h4]]
    rw [show applyS S A x = S by unfold applyS; rw [if_neg h1, if_neg h2, if_neg h3, if_neg h4]]
    rw [show applyI A x = A by unfold applyI; rw [if_neg (fun h => h4 h.1)]]
    clear PL ST SN SY RP
    go_enter Tryz.func27, Tryz.ntmps27
    go_wp2_with (first | go_big_skip | (first | go_big_skip | ((with_reducible apply wpList_loadAll HO); exact rfl; exact rfl; (repeat (with_reducible (first | exact At.head _ | apply At.tail))); infer_instance; exact rfl; exact rfl; (simp only [Act.put, zA, zB, zC])) | ((with_reducible apply wpList_loadOne HO); exact rfl; exact rfl; (repeat (with_reducible (first | exact At.head _ | apply At.tail))); exact rfl; infer_instance; exact rfl; (simp only [Act.put, zA, zB, zC]))) | ((with_reducible apply wpList_storeAll HO); exact rfl; exact rfl; exact rfl; (repeat (with_reducible (first | exact At.head _ | apply At.tail))); infer_instance; exact rfl; exact rfl; exact rfl; exact rfl; clear HO; intro w HO; (simp only [Act.put])) | (first | ((with_reducible apply wpList_boxAgg _ HO rfl); exact rfl; exact rfl; exact rfl; clear HO; intro b1 w HO; (simp only [Act.put, zA, zB, zC])) | ((with_reducible apply wpList_allocAgg _ HO rfl); exact rfl; infer_instance; exact rfl; clear HO; intro b1 w HO; (simp only [Act.put, zA, zB, zC]))) | ((with_reducible apply wpList_loadPart HO); exact rfl; exact rfl; (repeat (with_reducible (first | exact At.head _ | apply At.tail))); infer_instance; exact (Nat.le_of_ble_eq_true rfl); (simp only [List.drop_succ_cons, List.drop_zero, List.take_succ_cons, List.take_zero]; rfl); exact rfl; (simp only [Act.put, zA, zB, zC])) | (go_at_call 66; go_must ((with_reducible refine (NN _ _ HO).mono ?_); rintro e w ⟨rfl, hb⟩; replace HO := HO.call hb; clear hb)))
    go_ret
    exact ⟨rfl, a.u, a.v, i, fun _ => rfl, HO.tail⟩
end Go.Proofs.YtibabfedpdoofaaGreatDoor
namespace Go.Proofs.YtibabfedpdoofaaGreatDoor
open Go.RowKit Go.Own Go.Maps

theorem placeL_ok {L : List (OrdS × D6)} {o : OrdS} (hl : L.length ≤ 60) (h : ∀ x ∈ L, ordE x.1 = 0) : (placeL L o).length ≤ 60 ∧ ∀ x ∈ placeL L o, ordE x.1 = 0 := by
  unfold placeL
  split
  · rename_i h1
    unfold placeE at h1
    split at h1
    · rename_i h2; exact absurd h1 h2
    · rename_i h2
      split at h1
      · cases h1
      · split at h1
        · cases h1
        · refine ⟨by simp; omega, fun x hx => ?_⟩
          rcases List.mem_append.1 hx with hx | hx
          · exact h x hx
          · obtain rfl := List.mem_singleton.1 hx
            simpa using h2
  · exact ⟨hl, h⟩
theorem sagAt_ok {L : List (OrdS × D6)} {id : Int} {x : OrdS × D6} {t : D6} (hx : ordAt L id = some x) (hl : L.length ≤ 60) (h : ∀ x ∈ L, ordE x.1 = 0) : (sagAt L id (x.1, t)).length ≤ 60 ∧ ∀ z ∈ sagAt L id (x.1, t), ordE z.1 = 0 := by
  obtain ⟨j, hj, _, rfl⟩ := ordAt_some hx
  refine ⟨by simpa [sagAt] using hl, fun y hy => ?_⟩
  rcases List.mem_or_eq_of_mem_set hy with hy | rfl
  · exact h y hy
  · exact h L[j] (List.getElem_mem hj)
theorem postL_len1 (l : List Pst) (p : Pst) : (postL l p).length ≤ l.length + 1 := by
  unfold postL
  split
  · simp
  · omega
theorem applyS_ok {S : CoS} {A : InS} (h : CoOk S) (x : EntS) : CoOk (applyS S A x) ∧ (applyS S A x).P.length ≤ S.P.length + 60 := by
  unfold applyS
  split
  · exact ⟨⟨(placeL_ok h.len h.ord).1, (placeL_ok h.len h.ord).2, h.bk⟩, by simp⟩
  split
  · refine ⟨?_, by simp⟩
    show CoOk ⟨stopL S.L x.o, S.P⟩
    unfold stopL
    split
    · exact h
    · rename_i y hy
      split
      · exact h
      · exact ⟨(sagAt_ok hy h.len h.ord).1, (sagAt_ok hy h.len h.ord).2, h.bk⟩
  split
  · unfold replyS
    split
    · exact ⟨h, by omega⟩
    · rename_i y hy
      split
      · exact ⟨h, by omega⟩
      · refine ⟨⟨(sagAt_ok hy h.len h.ord).1, (sagAt_ok hy h.len h.ord).2, ?_⟩, ?_⟩
        · show Bk (replyP S.P _ _ _)
          unfold replyP
          split
          · exact h.bk.post _
          · split
            · exact h.bk.post _
            · exact h.bk
        · show (replyP S.P _ _ _).length ≤ _
          unfold replyP
          split
          · exact Nat.le_trans (postL_len1 _ _) (by omega)
          · split
            · exact Nat.le_trans (postL_len1 _ _) (by omega)
            · omega
  split
  · split
    · exact ⟨⟨h.len, h.ord, (stmtP_ok h.bk _ _ _).1⟩, (stmtP_ok h.bk _ _ _).2⟩
    · exact ⟨h, by omega⟩
  · exact ⟨h, by omega⟩
theorem applyI_ok {A : InS} (h : InOk A) (x : EntS) : InOk (applyI A x) := by
  unfold applyI
  split
  · rename_i h1
    exact put_ok h (accE_ok h1.2).1
  · exact h
theorem coNew_ok : CoOk ⟨[], []⟩ := ⟨by simp, by simp, .nil⟩
/-- What entries come to. -/
def coreS : CoS × InS → List EntS → CoS × InS := List.foldl (fun s x => (applyS s.1 s.2 x, applyI s.2 x))
def coreOf (l : List EntS) : CoS × InS := coreS (⟨[], []⟩, zeroI) l
theorem coreOf_snoc (l : List EntS) {j : Nat} (hj : j < l.length) : coreOf (l.take (j + 1)) = (applyS (coreOf (l.take j)).1 (coreOf (l.take j)).2 l[j], applyI (coreOf (l.take j)).2 l[j]) := by
  rw [coreOf, List.take_succ_eq_append_getElem hj, coreS, List.foldl_append]
  rfl
theorem coreOf_ok (l : List EntS) : ∀ j ≤ l.length, CoOk (coreOf (l.take j)).1 ∧ (coreOf (l.take j)).1.P.length ≤ 60 * j ∧ InOk (coreOf (l.take j)).2
  | 0, _ => ⟨coNew_ok, by simp [coreOf, coreS], zeroI_ok⟩
  | j + 1, h => by
    obtain ⟨h1, h2, h3⟩ := coreOf_ok l j (by omega)
    rw [coreOf_snoc l (by omega)]
    obtain ⟨h4, h5⟩ := applyS_ok (A := (coreOf (l.take j)).2) h1 l[j]
    exact ⟨h4, by dsimp only; omega, applyI_ok h3 _⟩
end Go.Proofs.YtibabfedpdoofaaGreatDoor
namespace Go.Own
open Go.RowKit
theorem wpList_lit0 {P : Program} {ops : Array Oper} {rest : List Oper} {o : Oper} {a : Act} {W w : World} {Q : Exit → Act → World → Prop} {L : List Ent} {t e k by' : Nat} (hO : Own W w L) (ho : o.op = .buildSlice t 0 #[]) (ht : IsSlice P t e) (he : IsElem P e k by')
    (hw : Region.wanted o (yielded ops a.tmps) = true) (h : ∀ b w', Own W w' (row e k (.slice (some ⟨b, 0, none⟩) 0 0) [] :: L) → wpList P ops Q rest (a.put o.dst (.slice (some ⟨b, 0, none⟩) 0 0)) w') : wpList P ops Q (o :: rest) a w := by
  have h1 := he.out
  have hpos := he.pos
  cases hi : P.info? e with
  | none => simp [hi] at h1
  | some i =>
    cases hzz : i.zero with
    | none => simp [hi, hzz] at h1
    | some zv =>
      simp only [hi, hzz, Option.bind_some, Option.map_some, Option.some.injEq, Prod.mk.injEq] at h1
      obtain ⟨h2, h3, _⟩ := h1
      have hr : (execOp a.eval o).run P w = .ok (.value (.slice (some ⟨w.heap.size, 0, none⟩) 0 0)) (w.alloc (.cells #[] e)) := by
        unfold execOp
        simp only [ho, Instr.buildSlice]
        simp [underlying, ht.out, sizeOf, typeInfo, hi, newRow, Instr.fill, show Array.range 0 = #[] by simp [Array.range]]
      refine wpList_value hw hr (h _ _ (hO.more ((Below.refl _ _).alloc (Nat.le_refl _) _) (row_ok _ _ _ _) (World.ownsRow_made w #[] 0 (Nat.zero_le _) (Nat.zero_le _) (by simp)) (fun b hb => ?_) (fun b hb => ?_)))
      · rw [show b = w.heap.size from List.mem_singleton.1 hb]; exact Nat.le_refl _
      · rw [show b = w.heap.size from List.mem_singleton.1 hb]; simp
end Go.Own
namespace Go.Proofs.YtibabfedpdoofaaGreatDoor
open Go.RowKit Go.Own Go.Maps Go.Shelf

theorem pstC_one (l : List Pst) : ∀ u ∈ (l.map pstC).flatten, u.oneCell' = true := by
  intro u hu
  obtain ⟨x, hx, hu⟩ := List.mem_flatten.1 hu
  obtain ⟨p, _, rfl⟩ := List.mem_map.1 hx
  simp only [pstC, List.mem_cons, List.not_mem_nil, or_false] at hu
  rcases hu with rfl | rfl | rfl | rfl | rfl <;> rfl

set_option maxHeartbeats 8000000 in
set_option maxRecDepth 100000 in
theorem sClone_any {W : World} {v : Value} {l : List Pst} (h : IsL W 5 v (l.map pstC)) (hnil : ∀ n c, v = .slice none n c → n = 0) (hlen : l.length ≤ 100000) : Calls Tryz.prog 138 #[v] W fun e w' => ∃ v', e = .returned v' ∧ Own W w' [row 187 5 v' (l.map pstC)] := by
  have HO := Own.start W
  have HH := Lib.hid (fun (w' : World) (L : List Ent) (hO : Own W w' L) => h.below hO.grown h.lt)
  have HL := Lib.hid (pstC_len l)
  have H1 := Lib.hid (pstC_one l)
  have hlen1 : ([] : List (List Value)).length + (l.map pstC).length ≤ 1000000 := by rw [List.length_map]; simp; omega
  obtain ⟨sp, sc, rfl, -⟩ := h.slice
  rw [List.length_map] at HH hnil ⊢
  clear h
  cases sp with
  | none =>
    have h0 : l.length = 0 := hnil _ _ rfl
    obtain rfl : l = [] := List.length_eq_zero_iff.1 h0
    replace HO := HO.nil 187 5
    have hq := fun w => Lib.run_eql_slice_nil (P := Tryz.prog) w _ _ (none : Option Addr) 0 sc 0 0 Tryz.underlying104
    clear h0 hnil
    go_enter Tryz.func138, Tryz.ntmps138
    go_wp2_with fail
    go_ret
    exact ⟨_, rfl, HO⟩
  | some a =>
    have hq := fun w => Lib.run_eql_slice_nil (P := Tryz.prog) w _ _ (some a) l.length sc 0 0 Tryz.underlying104
    clear hnil
    go_enter Tryz.func138, Tryz.ntmps138
    go_wp2_with (first | ((with_reducible apply wpList_lit0 (k := 5) HO); exact rfl; infer_instance; infer_instance; exact rfl; clear HO; intro bl w HO; (simp only [Act.put, zA, zB, zC])) | ((with_reducible apply wpList_appendAll HO); exact rfl; infer_instance; infer_instance; (first | (simp [Act.eval]; rfl) | exact rfl); exact rfl; exact (HH.out _ _ HO); exact HL.out; exact H1.out; intro _; (repeat (with_reducible (first | exact At.head _ | apply At.tail))); (first | omega | (simp; omega)); decide; exact rfl; clear HO; intro v2 w HO hv2; (simp only [Act.put, zA, zB, zC])) | go_big_skip)
    go_ret
    exact ⟨_, rfl, by simpa using HO⟩

def cloneI_ren : Go.Shelf.Ren := ⟨fun | 5 => 139 | 7 => 165 | n => n, fun | 4 => 4 | 20 => 20 | 23 => 190 | 25 => 9 | 3 => 187 | n => n, fun | n => n⟩
theorem cloneI : Go.Proofs.SlLaysW.n5 Tryz.prog cloneI_ren := {
  mixed := by kernel_rfl
  f5 := ⟨Tryz.f139.name, by kernel_rfl, Tryz.func139.trans (congrArg some (by kernel_rfl))⟩
  f7 := Tryz.func165.trans (congrArg some (by kernel_rfl))
  t4 := Tryz.underlying4
  a4 := Tryz.isAgg4
  z4 := Tryz.sizeOf4
  v4 := Tryz.zeroValue4
  t20 := Tryz.underlying20
  a20 := Tryz.isAgg20
  z20 := Tryz.sizeOf20
  v20 := Tryz.zeroValue20
  t23 := Tryz.underlying190
  a23 := Tryz.isAgg190
  z23 := Tryz.sizeOf190
  v23 := Tryz.zeroValue190 }
def cloneB_ren : Go.Shelf.Ren := ⟨fun | 5 => 140 | 7 => 165 | n => n, fun | 4 => 4 | 20 => 20 | 23 => 191 | 25 => 195 | 3 => 2 | n => n, fun | n => n⟩
theorem cloneB : Go.Proofs.SlLaysW.n5 Tryz.prog cloneB_ren := {
  mixed := by kernel_rfl
  f5 := ⟨Tryz.f140.name, by kernel_rfl, Tryz.func140.trans (congrArg some (by kernel_rfl))⟩
  f7 := Tryz.func165.trans (congrArg some (by kernel_rfl))
  t4 := Tryz.underlying4
  a4 := Tryz.isAgg4
  z4 := Tryz.sizeOf4
  v4 := Tryz.zeroValue4
  t20 := Tryz.underlying20
  a20 := Tryz.isAgg20
  z20 := Tryz.sizeOf20
  v20 := Tryz.zeroValue20
  t23 := Tryz.underlying191
  a23 := Tryz.isAgg191
  z23 := Tryz.sizeOf191
  v23 := Tryz.zeroValue191 }
theorem cloneI_any {w : World} {b : Nat} {l : List Pst} (h : (idE b l).F w) : Calls Tryz.prog 139 #[.map (some b)] w fun e w' => ∃ b', e = .returned (.map (some b')) ∧ Own w w' [idE b' l] := by
  obtain ⟨n, f, ⟨D, hD, hB⟩, hn, hf⟩ := h
  refine (AnyW.maps_Clone_owns cloneI _ _ b n D w hD).mono fun e w' ⟨he, h1, _, h3⟩ => ⟨_, he, (Own.start w).more h3 (idE_ok _ _) ⟨n, f, ⟨D, h1, hB⟩, hn, hf⟩ (fun b hb => ?_) (fun b hb => ?_)⟩
  · rw [show b = w.heap.size from List.mem_singleton.1 hb]; exact Nat.le_refl _
  · rw [show b = w.heap.size from List.mem_singleton.1 hb]; exact h1.lt
theorem cloneB_any {w : World} {b : Nat} {l : List Pst} (h : (balE b l).F w) : Calls Tryz.prog 140 #[.map (some b)] w fun e w' => ∃ b', e = .returned (.map (some b')) ∧ Own w w' [balE b' l] := by
  obtain ⟨n, f, ⟨D, hD, hB⟩, hn, hf⟩ := h
  refine (AnyW.maps_Clone_owns cloneB _ _ b n D w hD).mono fun e w' ⟨he, h1, _, h3⟩ => ⟨_, he, (Own.start w).more h3 (balE_ok _ _) ⟨n, f, ⟨D, h1, hB⟩, hn, hf⟩ (fun b hb => ?_) (fun b hb => ?_)⟩
  · rw [show b = w.heap.size from List.mem_singleton.1 hb]; exact Nat.le_refl _
  · rw [show b = w.heap.size from List.mem_singleton.1 hb]; exact h1.lt
theorem BkAt.isL {w : World} {b : Nat} {v : Value} {pm bm : Nat} {l : List Pst} (h : BkAt w b v pm bm l) : IsL w 5 v (l.map pstC) ∧ ∀ n c, v = .slice none n c → n = 0 := by
  refine ⟨isL_of_owns (pstC_len l) h.row, fun n c e => ?_⟩
  rcases h.row.2 with ⟨rfl, h0⟩ | ⟨g, cap, cur, rfl, _⟩
  · cases e; rfl
  · cases e

set_option maxHeartbeats 8000000 in
set_option maxRecDepth 100000 in
theorem bkCopy_any {W : World} {b : Nat} {v : Value} {pm bm : Nat} {l : List Pst} (h : BkAt W b v pm bm l) (hlen : l.length ≤ 100000) : Calls Tryz.prog 97 #[.pointer (some ⟨b, 0, none⟩)] W fun e w' => ∃ b' v' pm' bm', e = .returned (.pointer (some ⟨b', 0, none⟩)) ∧ Own W w' [bkE b' v' pm' bm' l] := by
  have HO := Own.start W
  have N := bkNone_any h.box
  have HC := fun w (hb : Below W.heap.size W w) => sClone_any ((h.below hb).isL.1) h.isL.2 hlen
  have HI := fun w (hb : Below W.heap.size W w) => cloneI_any (h.below hb).ids
  have HB := fun w (hb : Below W.heap.size W w) => cloneB_any (h.below hb).bals
  have hv : v.oneCell' = true := by
    rcases h.row.2 with ⟨rfl, h0⟩ | ⟨g, cap, cur, rfl, _⟩ <;> rfl
  have hlt := old_lt h.box
  have HK := Lib.hid (fun (w' : World) (hb : Below W.heap.size W w') (i : Nat) (u : Value) (hu : [v, .map (some pm), .map (some bm)][i]? = some u) => show w'.cell? ⟨b, i, none⟩ = some u by
    rw [hb.cell (p := ⟨b, i, none⟩) hlt]; exact old_cell h.box i hu)
  clear h
  go_enter Tryz.func97, Tryz.ntmps97
  go_upto_region 3 with (first | go_big_skip | (go_at_call 112; go_must ((with_reducible refine (N).mono ?_); rintro e w ⟨rfl, hb⟩; replace HO := HO.call hb; clear hb)))
  refine region_treeO [] [(0, true), (1, true), (2, true), (3, true), (5, true), (6, true), (7, true), (8, true), (10, true), (11, true), (12, true), (13, true), (4, false), (9, false), (14, false), (15, true), (16, false), (17, true)] (.fin [(0, true), (1, true), (2, true), (3, true), (5, true), (6, true), (7, true), (8, true), (10, true), (11, true), (12, true), (13, true), (4, false), (9, false), (14, false), (15, true), (16, false), (17, true)]) HO (by with_reducible (repeat (first | exact List.nil_sublist _ | apply List.Sublist.cons_cons | apply List.Sublist.cons))) (by kernel_rfl) (by kernel_rfl) ?_
  clear HO
  intro w HO
  refine wpS_fin ?_
  iterate 12 (first | ((with_reducible apply wpSched_loadAt1); exact rfl; exact rfl; exact rfl; exact (fun w' hw => HK.out w' (hw _ List.mem_cons_self) _ _ rfl); infer_instance; exact rfl; (simp only [Act.put, zA, zB, zC])) | ((with_reducible apply wpSched_pure); exact rfl; exact rfl; (intro w'; go_simp; try with_reducible rfl); (simp only [Act.put, zA, zB, zC])))
  ((with_reducible apply wpSched_loud); exact rfl; go_wp2_with ((go_at_call 138; go_must ((with_reducible refine (HC _ HO.grown).mono ?_); rintro e w ⟨v2, rfl, HO1⟩; replace HO := HO.lift HO1; clear HO1; simp only [List.cons_append, List.nil_append] at HO))))
  obtain ⟨⟨p9, c9, rfl⟩, -⟩ := HO.rowForm (v := v2) (.head _)
  rw [List.length_map] at HO ⊢
  refine thenQ_keep (HO.heldO (by with_reducible (repeat (first | exact List.nil_sublist _ | apply List.Sublist.cons_cons | apply List.Sublist.cons)))) ?_
  ((with_reducible apply wpSched_loud); exact rfl; go_wp2_with ((go_at_call 139; go_must ((with_reducible refine (HI _ HO.grown).mono ?_); rintro e w ⟨b2, rfl, HO1⟩; replace HO := HO.lift HO1; clear HO1; simp only [List.cons_append, List.nil_append] at HO))))
  refine thenQ_keep (HO.heldO (by with_reducible (repeat (first | exact List.nil_sublist _ | apply List.Sublist.cons_cons | apply List.Sublist.cons)))) ?_
  ((with_reducible apply wpSched_loud); exact rfl; go_wp2_with ((go_at_call 140; go_must ((with_reducible refine (HB _ HO.grown).mono ?_); rintro e w ⟨b3, rfl, HO1⟩; replace HO := HO.lift HO1; clear HO1; simp only [List.cons_append, List.nil_append] at HO))))
  refine thenQ_keep (HO.heldO (by with_reducible (repeat (first | exact List.nil_sublist _ | apply List.Sublist.cons_cons | apply List.Sublist.cons)))) ?_
  ((with_reducible apply wpSched_pure); exact rfl; exact rfl; (intro w'; go_simp; try with_reducible rfl); (simp only [Act.put, zA, zB, zC]))
  ((with_reducible apply wpSched_loud); exact rfl; (first | ((with_reducible apply wpList_boxAgg _ HO rfl); exact rfl; exact rfl; exact rfl; clear HO; intro b4 w HO; (simp only [Act.put, zA, zB, zC])) | ((with_reducible apply wpList_allocAgg _ HO rfl); exact rfl; infer_instance; exact rfl; clear HO; intro b4 w HO; (simp only [Act.put, zA, zB, zC]))))
  refine wpList_nil (thenQ_keep (HO.heldO (by with_reducible (repeat (first | exact List.nil_sublist _ | apply List.Sublist.cons_cons | apply List.Sublist.cons)))) ?_)
  ((with_reducible apply wpSched_pure); exact rfl; exact rfl; (intro w'; go_simp; try with_reducible rfl); (simp only [Act.put, zA, zB, zC]))
  refine wpSched_end ?_
  go_wp2_with fail
  go_ret
  exact ⟨b4, .slice p9 l.length c9, b2, b3, rfl, Own.join (es := bkPs b4 (.slice p9 l.length c9) b2 b3 l) (HO.perm ((List.reverse_perm [_, _, _]).symm.cons _))⟩
end Go.Proofs.YtibabfedpdoofaaGreatDoor
namespace Go.Proofs.YtibabfedpdoofaaGreatDoor
open Go.RowKit Go.Own Go.Maps

theorem dec_no45 (u : Nat) : (45 : UInt8) ∉ Lib.decDigits u := fun h => by
  have := (dec_digit u 45 h).1
  revert this
  decide
theorem split45 : ∀ {a b c d : List UInt8}, (45 : UInt8) ∉ a → (45 : UInt8) ∉ c → a ++ 45 :: b = c ++ 45 :: d → a = c ∧ b = d
  | [], b, [], d, _, _, h => ⟨rfl, by simpa using h⟩
  | [], b, y :: c, d, _, h2, h => by
    simp only [List.nil_append, List.cons_append, List.cons.injEq] at h
    exact absurd (by rw [← h.1]; exact List.mem_cons_self) h2
  | x :: a, b, [], d, h1, _, h => by
    simp only [List.nil_append, List.cons_append, List.cons.injEq] at h
    exact absurd (by rw [h.1]; exact List.mem_cons_self) h1
  | x :: a, b, y :: c, d, h1, h2, h => by
    simp only [List.cons_append, List.cons.injEq] at h
    obtain ⟨h3, h4⟩ := split45 (fun h => h1 (List.mem_cons_of_mem _ h)) (fun h => h2 (List.mem_cons_of_mem _ h)) h.2
    exact ⟨by rw [h.1, h3], h4⟩
theorem bytes_ext {a b : ByteArray} (h : a = b) : a.data.toList = b.data.toList := by rw [h]
theorem putK_list (o d : Int) : (putK o d).data.toList = Lib.itoa o ++ 45 :: deedL d := by simp [putK]
theorem sidK_list (q o : Int) : (sidK q o).data.toList = 115 :: (Lib.itoa q ++ 45 :: Lib.itoa o) := by simp [sidK]
theorem itoa_nat {o : Int} (h : 0 ≤ o) : Lib.itoa o = Lib.decDigits o.toNat := by
  have := Lib.itoa_nonneg o.toNat
  rwa [Int.toNat_of_nonneg h] at this
theorem deedL_inj {d d' : Int} (h0 : 0 ≤ d) (h5 : d ≤ 5) (h0' : 0 ≤ d') (h5' : d' ≤ 5) (h : deedL d = deedL d') : d = d' := by
  have h1 := deedsF_word h0 h5
  rw [h, deedsF_word h0' h5'] at h1
  simpa using h1.symm
theorem putK_inj {o d o' d' : Int} (h1 : 0 ≤ o) (h1' : 0 ≤ o') (h0 : 0 ≤ d) (h5 : d ≤ 5) (h0' : 0 ≤ d') (h5' : d' ≤ 5) (h : putK o d = putK o' d') : o = o' ∧ d = d' := by
  have h2 := bytes_ext h
  rw [putK_list, putK_list, itoa_nat h1, itoa_nat h1'] at h2
  obtain ⟨h3, h4⟩ := split45 (dec_no45 _) (dec_no45 _) h2
  have := dec_inj h3
  exact ⟨by omega, deedL_inj h0 h5 h0' h5' h4⟩
theorem sidK_inj {q o q' o' : Int} (h1 : 0 ≤ q) (h1' : 0 ≤ q') (h2 : 0 ≤ o) (h2' : 0 ≤ o') (h : sidK q o = sidK q' o') : q = q' ∧ o = o' := by
  have h3 := bytes_ext h
  rw [sidK_list, sidK_list, itoa_nat h1, itoa_nat h1', itoa_nat h2, itoa_nat h2', List.cons.injEq] at h3
  obtain ⟨h4, h5⟩ := split45 (dec_no45 _) (dec_no45 _) h3.2
  have h6 := dec_inj h4
  have h7 := dec_inj h5
  exact ⟨by omega, by omega⟩
theorem put_ne_sid {o d q o' : Int} (h1 : 0 ≤ o) : putK o d ≠ sidK q o' := fun h => by
  have h2 := bytes_ext h
  rw [putK_list, sidK_list, itoa_nat h1] at h2
  rcases hd : Lib.decDigits o.toNat with _ | ⟨x, l⟩
  · exact dec_ne _ hd
  · rw [hd, List.cons_append, List.cons.injEq] at h2
    have := (dec_digit o.toNat x (by rw [hd]; exact List.mem_cons_self)).2
    rw [h2.1] at this
    revert this
    decide
theorem putK_ne (o d : Int) : (putK o d).size ≠ 0 := by
  unfold putK
  rw [ByteArray.size_append, ByteArray.size_append]
  show _ + 1 + _ ≠ 0
  omega
theorem sidK_ne (q o : Int) : (sidK q o).size ≠ 0 := by
  unfold sidK
  rw [ByteArray.size_append, ByteArray.size_append, ByteArray.size_append]
  show 1 + _ + 1 + _ ≠ 0
  omega
/-- A small posting of an id of its own is posted. -/
theorem delta_small {p : Pst} {b : Int} (h : mayPst p = true) (h2 : p.a ≤ b) (hb : 0 ≤ b) (n o : Int) : -b ≤ delta p n o ∧ delta p n o ≤ b := by
  have := mayPst_iff.1 h
  unfold delta
  repeat' split
  all_goals omega
theorem bal_small {b : Int} (hb : 0 ≤ b) (n o : Int) : ∀ {l : List Pst}, (∀ p ∈ l, mayPst p = true ∧ p.a ≤ b) → -(b * (l.length : Int)) ≤ bal l n o ∧ bal l n o ≤ b * (l.length : Int)
  | [], _ => by simp [bal]
  | p :: l, h => by
    have h1 := bal_small hb n o (fun q hq => h q (List.mem_cons_of_mem _ hq))
    have h2 := delta_small (h p List.mem_cons_self).1 (h p List.mem_cons_self).2 hb n o
    simp only [bal, List.length_cons]
    rw [show ((l.length + 1 : Nat) : Int) = (l.length : Int) + 1 by omega, Int.mul_add, Int.mul_one]
    omega
theorem post_new {P : List Pst} {p : Pst} (h : ∀ q ∈ P, mayPst q = true ∧ q.a ≤ 2199023255552) (hl : P.length ≤ 100000) (hm : mayPst p = true) (ha : p.a ≤ 2199023255552) (hn : ∀ q ∈ P, q.id ≠ p.id) : postL P p = P ++ [p] := by
  unfold postL
  rw [if_pos]
  have h1 : findP P p.id = none := by
    unfold findP
    rw [List.find?_eq_none]
    intro q hq
    simpa using hn q hq
  have hx := mayPst_iff.1 hm
  have hb := fun n o => bal_small (b := 2199023255552) (by decide) n o h
  have e : (2199023255552 : Int) * (P.length : Int) ≤ 219902325555200000 := by omega
  rw [hm, h1]
  simp only [fitsPst, Bool.and_eq_true, inI_iff, Option.isNone_none, true_and]
  have b1 := hb p.d 0
  have b2 := hb p.c 0
  have b3 := hb p.d p.o
  have b4 := hb p.c p.o
  omega
end Go.Proofs.YtibabfedpdoofaaGreatDoor

/-
  Accepting a statement, by walking the program's text; conditions: the rows lie in memory, the table of parties as laid, the intake's rows may be. (Printed by wip/mkintacc.py.)
  Accepting a statement, by walking both texts: where it is not; and the document's; conditions: the rows lie in memory, the table of parties as laid.
  The chapter's example of an intake, by walking the law's text; conditions: the table of parties as laid.
  The pieces of memory of an intake that is led through statements; conditions: none.
  Whether a core has a reference; a new one; by walking the program's text; conditions: none.
  What a saga becomes, by walking both texts; conditions: none.
  Boxes that a call has laid, seen behind another call; conditions: none.
-/
import Derived.Deep.CutBlock
import Derived.Deep.DeepCutAuto
import Derived.Test.YtibabfedpdoofaaGreatDoorRa1
import Derived.Test.YtibabfedpdoofaaGreatDoorRa4
namespace Go.Proofs.YtibabfedpdoofaaGreatDoor
open Go.RowKit Go.Own Go.Maps

/-- What the call hands back: the new intake, its map and its copy of the rows in memory of the caller's own. -/
def AccPost (A : InS) (p q : Int) (rs : List RowS) (v0 v1 v2 : Value) (w : World) (e : Ending) (w' : World) : Prop :=
  if accE A p q rs = 0 then ∃ (b n : Nat) (u : Value), Own w w' [mapE Tryz.prog 29 b n (allF (A.put p q rs)), row 160 5 u (rs.map rowC)] ∧
    (∃ p' c', u = .slice p' rs.length c') ∧ e = .returned (.tuple #[.agg #[.int .i64 ((A.put p q rs)).p0, .int .i64 ((A.put p q rs)).q0, (if p = 0 then u else v0), .int .i64 ((A.put p q rs)).p1, .int .i64 ((A.put p q rs)).q1, (if p = 1 then u else v1), .int .i64 ((A.put p q rs)).p2, .int .i64 ((A.put p q rs)).q2, (if p = 2 then u else v2), .map (some b)], .int .i64 0])
  else e = .returned (.tuple #[.agg #[.int .i64 (zeroI).p0, .int .i64 (zeroI).q0, .slice none 0 0, .int .i64 (zeroI).p1, .int .i64 (zeroI).q1, .slice none 0 0, .int .i64 (zeroI).p2, .int .i64 (zeroI).q2, .slice none 0 0, .map none], .int .i64 (accE A p q rs)]) ∧ Below w.heap.size w w'
theorem rows_snoc (pre rs : List RowS) {j : Nat} (hj : j < rs.length) : putRows (fun _ => none) (pre ++ rs.take (j + 1)) = updF (putRows (fun _ => none) (pre ++ rs.take j)) (keyLit rs[j].o rs[j].d) rs[j].v := by
  rw [List.take_succ_eq_append_getElem hj, ← List.append_assoc, putRows_snoc]

set_option maxHeartbeats 8000000 in
set_option maxRecDepth 100000 in
theorem accept0_any {W : World} {v0 v1 v2 v : Value} (A : InS) (m : Value) (q : Int) (rs : List RowS) (h0 : IsRows W v0 A.r0) (h1 : IsRows W v1 A.r1) (h2 : IsRows W v2 A.r2) (h : IsRows W v rs) (hA : InOk A) (hm : m = .map none ∨ ∃ b, m = .map (some b)) (hL : Laid W) (hacc : accE A 0 q rs = 0) :
    Calls Tryz.prog 130 #[.agg #[.int .i64 (A).p0, .int .i64 (A).q0, v0, .int .i64 (A).p1, .int .i64 (A).q1, v1, .int .i64 (A).p2, .int .i64 (A).q2, v2, m], .agg #[.int .i64 0, .int .i64 q, v]] W (AccPost A 0 q rs v0 v1 v2 W) := by
  obtain ⟨hok, hlt⟩ := accE_ok hacc
  have V := fun w (hb : Below W.heap.size W w) => rowsValid_any 0 q (h.below hb h.lt) (hL.below hb hL.1)
  rw [hok] at V
  obtain ⟨_, _, _, _, hrl, hck⟩ := okStmt_ok hok
  obtain ⟨p0, q0, r0, p1, q1, r1, p2, q2, r2⟩ := A
  obtain ⟨k0, k1, k2⟩ := hA
  simp only at h0 h1 h2 k0 k1 k2
  have HF := Lib.hid (fun (f : Lit → Option Value) (b n : Nat) (u : Value) (w' : World) (hO : Own W w' [mapE Tryz.prog 29 b n f, row 160 5 u (rs.map rowC)]) (hu : ∃ p' c', u = .slice p' rs.length c') (hf : f = putRows (fun _ => none) (rs ++ (r1 ++ r2))) =>
    (show AccPost ⟨p0, q0, r0, p1, q1, r1, p2, q2, r2⟩ 0 q rs v0 v1 v2 W (.returned (.tuple #[.agg #[.int .i64 0, .int .i64 q, u, .int .i64 p1, .int .i64 q1, v1, .int .i64 p2, .int .i64 q2, v2, .map (some b)], .int .i64 0])) w' from by
      unfold AccPost
      rw [if_pos hacc]
      subst hf
      exact ⟨b, n, u, hO, hu, rfl⟩))
  have hlt' : decide (q ≤ q0) = false := by
    have hlt2 : q0 < q := hlt
    simp; omega
  generalize hP : AccPost ⟨p0, q0, r0, p1, q1, r1, p2, q2, r2⟩ 0 q rs v0 v1 v2 W = Post at *
  have HU := Lib.hid (fun (w' : World) (L : List Ent) (hO : Own W w' L) => isL_of_isRows (h.below hO.grown h.lt))
  obtain ⟨s, c, rfl, -⟩ := h.slice
  obtain ⟨s0, c0, rfl, -⟩ := h0.slice
  obtain ⟨s1, c1, rfl, -⟩ := h1.slice
  obtain ⟨s2, c2, rfl, -⟩ := h2.slice
  have R1 := Lib.hid (fun j (hj : j < r1.length) => oldRow h1 rfl hj)
  have R2 := Lib.hid (fun j (hj : j < r2.length) => oldRow h2 rfl hj)
  have K0 := Lib.hid (fun j (hj : j < rs.length) => rows_keys hck hj)
  have K1 := Lib.hid (fun j (hj : j < r1.length) => rows_keys k1 hj)
  have K2 := Lib.hid (fun j (hj : j < r2.length) => rows_keys k2 hj)
  have n0 := rows_len k0
  have n1 := rows_len k1
  have n2 := rows_len k2
  have hmx : maxLen = 9223372036854775807 := rfl
  have HO := (Own.start W).nil 160 5
  clear h0 h1 h2 h k0 k1 k2 hck hok hlt hacc hL hP
  rcases hm with rfl | ⟨mb, rfl⟩
  all_goals
    go_enter Tryz.func130, Tryz.ntmps130
    go_wp2_with (first | ((with_reducible apply wpList_boxAgg _ HO rfl); exact rfl; exact rfl; exact rfl; clear HO; intro b2 w HO; (simp only [Act.put, zA, zB, zC])) | ((have _h : Own W _ (box _ _ :: box _ _ :: _) := HO); clear _h; ((with_reducible apply wpList_allocAgg _ HO rfl); exact rfl; infer_instance; exact rfl; clear HO; intro b4 w HO; (simp only [Act.put, zA, zB, zC]))) | (((with_reducible apply wpList_loadAll HO); exact rfl; exact rfl; (repeat (with_reducible (first | exact At.head _ | apply At.tail))); infer_instance; exact rfl; exact rfl; (simp only [Act.put, zA, zB, zC]))) | (go_at_call 159; go_must ((with_reducible refine (V _ HO.grown).mono ?_); rintro e w ⟨rfl, hb⟩; replace HO := HO.call hb; clear hb)))
    refine region_own HO (by kernel_rfl) (by kernel_rfl) ?_
    clear HO
    intro F HF
    repeat (first | (((with_reducible apply wpQuiet_loadOne HF); exact rfl; exact rfl; (repeat (with_reducible (first | exact At.head _ | apply At.tail))); exact rfl; infer_instance; exact rfl; (simp only [Act.put, zA, zB, zC]))) | go_big_quiet_step (fail))
    refine wpQuiet_nil ?_
    intro x
    have HO := HF.own x
    clear HF
    generalize F x = w at *
    clear x F
    go_wp2_with (first | (first | ((with_reducible apply wpList_loadAll HO); exact rfl; exact rfl; (repeat (with_reducible (first | exact At.head _ | apply At.tail))); infer_instance; exact rfl; exact rfl; (simp only [Act.put, zA, zB, zC])) | ((with_reducible apply wpList_loadOne HO); exact rfl; exact rfl; (repeat (with_reducible (first | exact At.head _ | apply At.tail))); exact rfl; infer_instance; exact rfl; (simp only [Act.put, zA, zB, zC]))) | ((with_reducible apply wpList_storeAll HO); exact rfl; exact rfl; exact rfl; (repeat (with_reducible (exact At.head _))); infer_instance; exact rfl; exact rfl; exact rfl; exact rfl; clear HO; intro w HO; (simp only [Act.put])) | ((with_reducible apply wpList_storePart HO); exact rfl; exact rfl; ((simp [Act.eval]; rfl)); exact rfl; (repeat (with_reducible (first | exact At.head _ | apply At.tail))); infer_instance; exact rfl; exact (by simp); (simp only [putL, List.drop_succ_cons, List.drop_zero, List.take_succ_cons, List.take_zero, List.length_cons, List.length_nil, List.cons_append, List.nil_append, List.append_nil, Nat.reduceAdd]; rfl); exact rfl; exact rfl; clear HO; intro w HO; (simp only [Act.put])) | ((with_reducible apply wpList_loadPart HO); exact rfl; exact rfl; (repeat (with_reducible (first | exact At.head _ | apply At.tail))); infer_instance; exact (Nat.le_of_ble_eq_true rfl); (simp only [List.drop_zero, List.take_succ_cons, List.take_zero]; rfl); exact rfl; (simp only [Act.put, zA, zB, zC])) | ((with_reducible apply wpList_makeMap HO (kt := 29)); exact rfl; exact rfl; clear HO; intro b w HO; (simp only [Act.put, zA, zB, zC])) | ((with_reducible apply wpList_allocAgg _ HO rfl); exact rfl; infer_instance; exact rfl; clear HO; intro b6 w HO; (simp only [Act.put, zA, zB, zC])) | ((with_reducible apply wpList_appendAll HO); exact rfl; infer_instance; infer_instance; ((simp [Act.eval]; rfl)); exact rfl; exact (HU.out _ _ HO); exact rowC_len _; exact rowC_one _; intro _; (repeat (with_reducible (first | exact At.head _ | apply At.tail))); (simp; omega); decide; exact rfl; clear HO; intro v2 w HO hv2; clear hv2; (obtain ⟨⟨su, cu, rfl⟩, -⟩ := HO.rowForm (v := v2) (by (repeat (with_reducible (first | exact At.head _ | apply At.tail))))); simp only [List.nil_append, List.length_map] at HO ⊢; (simp only [Act.put, zA, zB, zC])))

    refine wp_loop_rounds 4 ?_
    rw [rounds_succ]
    go_wp2_with (first | ((with_reducible apply wpList_indexArr (i := 0)); exact rfl; exact rfl; exact rfl; exact Tryz.underlying138; exact (by decide); infer_instance; (simp only [Nat.zero_mul, List.drop_zero, List.take_succ_cons, List.take_zero]; rfl); exact rfl; (simp only [Act.put, zA, zB, zC])) | (((with_reducible apply wpList_loadOne HO); exact rfl; exact rfl; (repeat (with_reducible (exact At.head _))); exact rfl; infer_instance; exact rfl; (simp only [Act.put, zA, zB, zC]))) | ((with_reducible apply wpList_storeAll HO); exact rfl; exact rfl; exact rfl; (repeat (with_reducible (exact At.head _))); infer_instance; exact rfl; exact rfl; exact rfl; exact rfl; clear HO; intro w HO; (simp only [Act.put])) | (((with_reducible apply wpList_allocAgg _ HO rfl); exact rfl; infer_instance; exact rfl; clear HO; intro b8 w HO; (simp only [Act.put, zA, zB, zC]))))
    go_loopw [46] (fun i wr => ∃ j : Nat, j ≤ rs.length ∧ i = .int .i64 (j : Int) ∧ Own W wr [box b8 (.cells #[.int .i64 0, .int .i64 q, .slice su rs.length cu] 32), box b6 (.cells #[.int .i64 0, .int .i64 q, .slice su rs.length cu, .int .i64 p1, .int .i64 q1, .slice s1 r1.length c1, .int .i64 p2, .int .i64 q2, .slice s2 r2.length c2, .map (some b)] 141), mapE Tryz.prog 29 b (0 + j) (putRows (fun _ => none) (([] : List RowS) ++ rs.take j)), box b4 (.cells #[.int .i64 0, .int .i64 0, .slice none 0 0, .int .i64 0, .int .i64 0, .slice none 0 0, .int .i64 0, .int .i64 0, .slice none 0 0, .map none] 141), row 160 5 (.slice su rs.length cu) (rs.map rowC)]) (fun i _ => rs.length - (intOf i).toNat)
    case atStart => exact ⟨0, by omega, rfl, by simpa [putRows] using HO.sub (by exact .cons_cons _ (.cons_cons _ (.cons_cons _ (.cons_cons _ (.cons _ (.cons _ (.cons_cons _ (List.Sublist.refl _))))))))⟩
    case round =>
      clear HO
      obtain ⟨j, hj, rfl, HO⟩ := hrel
      by_cases hjl : j < rs.length
      · have hjI : (j : Int) < (rs.length : Int) := by omega
        obtain ⟨q9, c9, h9⟩ := (HO.rowForm (t := 160) (k := 5) (v := .slice su rs.length cu) (by (repeat (with_reducible (first | exact At.head _ | apply At.tail))))).2 (by rw [List.length_map]; omega)
        rw [List.length_map] at h9
        cases h9
        have HGJ := Lib.hid (show (rs.map rowC)[j]? = some (rowC rs[j]) by rw [List.getElem?_map, List.getElem?_eq_getElem hjl]; rfl)
        have hk := K0.out j hjl
        have HX := Lib.hid (rows_snoc ([] : List RowS) rs hjl)
        generalize rs[j] = r at *
        obtain ⟨ro, rd, rc, ra, rq⟩ := r
        replace hk := Lib.hid hk
        go_wp2_with (first | (first | ((with_reducible apply wpList_loadAll HO); exact rfl; exact rfl; (repeat (with_reducible (exact At.head _))); infer_instance; exact rfl; exact rfl; (simp only [Act.put, zA, zB, zC])) | ((with_reducible apply wpList_loadOne HO); exact rfl; exact rfl; (repeat (with_reducible (first | exact At.head _ | apply At.tail))); exact rfl; infer_instance; exact rfl; (simp only [Act.put, zA, zB, zC]))) | ((with_reducible apply wpList_loadAt HO); exact rfl; exact rfl; exact (fun w' h1 => h1.rowAt (by (repeat (with_reducible (first | exact At.head _ | apply At.tail)))) (rowC_len rs) HGJ.out); infer_instance; exact rfl; exact rfl; (simp only [Act.put, zA, zB, zC])) | (((with_reducible apply wpList_allocAgg _ HO rfl); exact rfl; infer_instance; exact rfl; clear HO; intro b10 w HO; (simp only [Act.put, zA, zB, zC]))) | ((with_reducible apply wpList_storeAll HO); exact rfl; exact rfl; exact rfl; (repeat (with_reducible (exact At.head _))); infer_instance; exact rfl; exact rfl; exact rfl; exact rfl; clear HO; intro w HO; (simp only [Act.put])) | ((with_reducible apply wpList_loadPart HO); exact rfl; exact rfl; (repeat (with_reducible (exact At.head _))); infer_instance; exact (Nat.le_of_ble_eq_true rfl); (simp only [List.drop_zero]; rfl); exact rfl; (simp only [Act.put, zA, zB, zC])) | ((with_reducible apply wpList_mapPut HO (kt := 29) (et := 160)); exact rfl; exact rfl; exact rfl; exact rfl; (repeat (with_reducible (first | exact At.head _ | apply At.tail))); exact keyKeyed; exact Tryz.underlying139; exact (by omega); exact keyOf_lit hk.out.1 hk.out.2; exact rfl; clear HO; intro w HO; (simp only [Act.put])))
        go_roundw
        case rel => exact ⟨j + 1, by omega, by go_num, by rw [HX.out]; exact HO.sub (by exact .cons _ (.cons_cons _ (.cons_cons _ (.cons_cons _ (.cons_cons _ (.cons_cons _ (List.Sublist.refl _)))))))⟩
        case measure => simp [intOf] <;> omega
      · obtain rfl : j = rs.length := by omega
        rw [List.take_length] at HO
        rw [List.nil_append, Nat.zero_add] at HO
        have HO0 := HO
        go_wp2_with fail
        rw [rounds_succ]
        clear HO0
        go_wp2_with (first | ((with_reducible apply wpList_indexArr (i := 1)); exact rfl; exact rfl; exact rfl; exact Tryz.underlying138; exact (by decide); infer_instance; (simp only [Nat.one_mul, List.drop_succ_cons, List.drop_zero, List.take_succ_cons, List.take_zero]; rfl); exact rfl; (simp only [Act.put, zA, zB, zC])) | (((with_reducible apply wpList_loadOne HO); exact rfl; exact rfl; (repeat (with_reducible (exact At.head _))); exact rfl; infer_instance; exact rfl; (simp only [Act.put, zA, zB, zC]))) | ((with_reducible apply wpList_storeAll HO); exact rfl; exact rfl; exact rfl; (repeat (with_reducible (exact At.head _))); infer_instance; exact rfl; exact rfl; exact rfl; exact rfl; clear HO; intro w HO; (simp only [Act.put])) | (((with_reducible apply wpList_allocAgg _ HO rfl); exact rfl; infer_instance; exact rfl; clear HO; intro b8 w HO; (simp only [Act.put, zA, zB, zC]))))
        go_loopw [46] (fun i wr => ∃ j : Nat, j ≤ r1.length ∧ i = .int .i64 (j : Int) ∧ Own W wr [box b8 (.cells #[.int .i64 p1, .int .i64 q1, .slice s1 r1.length c1] 32), box b6 (.cells #[.int .i64 0, .int .i64 q, .slice su rs.length cu, .int .i64 p1, .int .i64 q1, .slice s1 r1.length c1, .int .i64 p2, .int .i64 q2, .slice s2 r2.length c2, .map (some b)] 141), mapE Tryz.prog 29 b (rs.length + j) (putRows (fun _ => none) (rs ++ r1.take j)), box b4 (.cells #[.int .i64 0, .int .i64 0, .slice none 0 0, .int .i64 0, .int .i64 0, .slice none 0 0, .int .i64 0, .int .i64 0, .slice none 0 0, .map none] 141), row 160 5 (.slice su rs.length cu) (rs.map rowC)]) (fun i _ => r1.length - (intOf i).toNat)
        case atStart => exact ⟨0, by omega, rfl, by simpa using HO.sub (by exact .cons_cons _ (.cons _ (.cons_cons _ (.cons_cons _ (.cons_cons _ (.cons_cons _ (List.Sublist.refl _)))))))⟩
        case round =>
          clear HO
          obtain ⟨j, hj, rfl, HO⟩ := hrel
          by_cases hjl : j < r1.length
          · have hjI : (j : Int) < (r1.length : Int) := by omega
            obtain ⟨a, rfl, hcell⟩ := R1.out j hjl
            replace hcell := Lib.hid hcell
            have hk := K1.out j hjl
            have HX := Lib.hid (rows_snoc rs r1 hjl)
            generalize r1[j] = r at *
            obtain ⟨ro, rd, rc, ra, rq⟩ := r
            replace hk := Lib.hid hk
            go_wp2_with (first | (first | ((with_reducible apply wpList_loadAll HO); exact rfl; exact rfl; (repeat (with_reducible (exact At.head _))); infer_instance; exact rfl; exact rfl; (simp only [Act.put, zA, zB, zC])) | ((with_reducible apply wpList_loadOne HO); exact rfl; exact rfl; (repeat (with_reducible (first | exact At.head _ | apply At.tail))); exact rfl; infer_instance; exact rfl; (simp only [Act.put, zA, zB, zC]))) | ((with_reducible apply wpList_loadAt HO); exact rfl; exact rfl; exact (fun w' h1 => hcell.out w' _ h1); infer_instance; exact rfl; exact rfl; (simp only [Act.put, zA, zB, zC])) | (((with_reducible apply wpList_allocAgg _ HO rfl); exact rfl; infer_instance; exact rfl; clear HO; intro b10 w HO; (simp only [Act.put, zA, zB, zC]))) | ((with_reducible apply wpList_storeAll HO); exact rfl; exact rfl; exact rfl; (repeat (with_reducible (exact At.head _))); infer_instance; exact rfl; exact rfl; exact rfl; exact rfl; clear HO; intro w HO; (simp only [Act.put])) | ((with_reducible apply wpList_loadPart HO); exact rfl; exact rfl; (repeat (with_reducible (exact At.head _))); infer_instance; exact (Nat.le_of_ble_eq_true rfl); (simp only [List.drop_zero]; rfl); exact rfl; (simp only [Act.put, zA, zB, zC])) | ((with_reducible apply wpList_mapPut HO (kt := 29) (et := 160)); exact rfl; exact rfl; exact rfl; exact rfl; (repeat (with_reducible (first | exact At.head _ | apply At.tail))); exact keyKeyed; exact Tryz.underlying139; exact (by omega); exact keyOf_lit hk.out.1 hk.out.2; exact rfl; clear HO; intro w HO; (simp only [Act.put])))
            go_roundw
            case rel => exact ⟨j + 1, by omega, by go_num, by rw [HX.out]; exact HO.sub (by exact .cons _ (.cons_cons _ (.cons_cons _ (.cons_cons _ (.cons_cons _ (.cons_cons _ (List.Sublist.refl _)))))))⟩
            case measure => simp [intOf] <;> omega
          · obtain rfl : j = r1.length := by omega
            rw [List.take_length] at HO
            have HO0 := HO
            go_wp2_with fail
            rw [rounds_succ]
            clear HO0
            go_wp2_with (first | ((with_reducible apply wpList_indexArr (i := 2)); exact rfl; exact rfl; exact rfl; exact Tryz.underlying138; exact (by decide); infer_instance; (simp only [Nat.reduceMul, List.drop_succ_cons, List.drop_zero, List.take_succ_cons, List.take_zero]; rfl); exact rfl; (simp only [Act.put, zA, zB, zC])) | (((with_reducible apply wpList_loadOne HO); exact rfl; exact rfl; (repeat (with_reducible (exact At.head _))); exact rfl; infer_instance; exact rfl; (simp only [Act.put, zA, zB, zC]))) | ((with_reducible apply wpList_storeAll HO); exact rfl; exact rfl; exact rfl; (repeat (with_reducible (exact At.head _))); infer_instance; exact rfl; exact rfl; exact rfl; exact rfl; clear HO; intro w HO; (simp only [Act.put])) | (((with_reducible apply wpList_allocAgg _ HO rfl); exact rfl; infer_instance; exact rfl; clear HO; intro b8 w HO; (simp only [Act.put, zA, zB, zC]))))
            go_loopw [46] (fun i wr => ∃ j : Nat, j ≤ r2.length ∧ i = .int .i64 (j : Int) ∧ Own W wr [box b8 (.cells #[.int .i64 p2, .int .i64 q2, .slice s2 r2.length c2] 32), box b6 (.cells #[.int .i64 0, .int .i64 q, .slice su rs.length cu, .int .i64 p1, .int .i64 q1, .slice s1 r1.length c1, .int .i64 p2, .int .i64 q2, .slice s2 r2.length c2, .map (some b)] 141), mapE Tryz.prog 29 b ((rs.length + r1.length) + j) (putRows (fun _ => none) ((rs ++ r1) ++ r2.take j)), box b4 (.cells #[.int .i64 0, .int .i64 0, .slice none 0 0, .int .i64 0, .int .i64 0, .slice none 0 0, .int .i64 0, .int .i64 0, .slice none 0 0, .map none] 141), row 160 5 (.slice su rs.length cu) (rs.map rowC)]) (fun i _ => r2.length - (intOf i).toNat)
            case atStart => exact ⟨0, by omega, rfl, by simpa using HO.sub (by exact .cons_cons _ (.cons _ (.cons_cons _ (.cons_cons _ (.cons_cons _ (.cons_cons _ (List.Sublist.refl _)))))))⟩
            case round =>
              clear HO
              obtain ⟨j, hj, rfl, HO⟩ := hrel
              by_cases hjl : j < r2.length
              · have hjI : (j : Int) < (r2.length : Int) := by omega
                obtain ⟨a, rfl, hcell⟩ := R2.out j hjl
                replace hcell := Lib.hid hcell
                have hk := K2.out j hjl
                have HX := Lib.hid (rows_snoc (rs ++ r1) r2 hjl)
                generalize r2[j] = r at *
                obtain ⟨ro, rd, rc, ra, rq⟩ := r
                replace hk := Lib.hid hk
                go_wp2_with (first | (first | ((with_reducible apply wpList_loadAll HO); exact rfl; exact rfl; (repeat (with_reducible (exact At.head _))); infer_instance; exact rfl; exact rfl; (simp only [Act.put, zA, zB, zC])) | ((with_reducible apply wpList_loadOne HO); exact rfl; exact rfl; (repeat (with_reducible (first | exact At.head _ | apply At.tail))); exact rfl; infer_instance; exact rfl; (simp only [Act.put, zA, zB, zC]))) | ((with_reducible apply wpList_loadAt HO); exact rfl; exact rfl; exact (fun w' h1 => hcell.out w' _ h1); infer_instance; exact rfl; exact rfl; (simp only [Act.put, zA, zB, zC])) | (((with_reducible apply wpList_allocAgg _ HO rfl); exact rfl; infer_instance; exact rfl; clear HO; intro b10 w HO; (simp only [Act.put, zA, zB, zC]))) | ((with_reducible apply wpList_storeAll HO); exact rfl; exact rfl; exact rfl; (repeat (with_reducible (exact At.head _))); infer_instance; exact rfl; exact rfl; exact rfl; exact rfl; clear HO; intro w HO; (simp only [Act.put])) | ((with_reducible apply wpList_loadPart HO); exact rfl; exact rfl; (repeat (with_reducible (exact At.head _))); infer_instance; exact (Nat.le_of_ble_eq_true rfl); (simp only [List.drop_zero]; rfl); exact rfl; (simp only [Act.put, zA, zB, zC])) | ((with_reducible apply wpList_mapPut HO (kt := 29) (et := 160)); exact rfl; exact rfl; exact rfl; exact rfl; (repeat (with_reducible (first | exact At.head _ | apply At.tail))); exact keyKeyed; exact Tryz.underlying139; exact (by omega); exact keyOf_lit hk.out.1 hk.out.2; exact rfl; clear HO; intro w HO; (simp only [Act.put])))
                go_roundw
                case rel => exact ⟨j + 1, by omega, by go_num, by rw [HX.out]; exact HO.sub (by exact .cons _ (.cons_cons _ (.cons_cons _ (.cons_cons _ (.cons_cons _ (.cons_cons _ (List.Sublist.refl _)))))))⟩
                case measure => simp [intOf] <;> omega
              · obtain rfl : j = r2.length := by omega
                rw [List.take_length] at HO
                go_wp2_with fail
                rw [rounds_succ]
                go_wp2_with (first | (((with_reducible apply wpList_loadAll HO); exact rfl; exact rfl; (repeat (with_reducible (first | exact At.head _ | apply At.tail))); infer_instance; exact rfl; exact rfl; (simp only [Act.put, zA, zB, zC]))) | ((with_reducible apply wpList_storeAll HO); exact rfl; exact rfl; exact rfl; (repeat (with_reducible (first | exact At.head _ | apply At.tail))); infer_instance; exact rfl; exact rfl; exact rfl; exact rfl; clear HO; intro w HO; (simp only [Act.put])))
                refine bodyPost_ret (results_box HO rfl rfl (by (repeat (with_reducible (first | exact At.head _ | apply At.tail)))) inferInstance rfl rfl) rfl ?_
                exact HF.out _ _ _ _ _ (HO.sub (by exact .cons _ (.cons _ (.cons_cons _ (.cons _ (.cons_cons _ (List.Sublist.refl _))))))) ⟨_, _, rfl⟩ (by rw [List.append_assoc])

set_option maxHeartbeats 8000000 in
set_option maxRecDepth 100000 in
theorem accept1_any {W : World} {v0 v1 v2 v : Value} (A : InS) (m : Value) (q : Int) (rs : List RowS) (h0 : IsRows W v0 A.r0) (h1 : IsRows W v1 A.r1) (h2 : IsRows W v2 A.r2) (h : IsRows W v rs) (hA : InOk A) (hm : m = .map none ∨ ∃ b, m = .map (some b)) (hL : Laid W) (hacc : accE A 1 q rs = 0) :
    Calls Tryz.prog 130 #[.agg #[.int .i64 (A).p0, .int .i64 (A).q0, v0, .int .i64 (A).p1, .int .i64 (A).q1, v1, .int .i64 (A).p2, .int .i64 (A).q2, v2, m], .agg #[.int .i64 1, .int .i64 q, v]] W (AccPost A 1 q rs v0 v1 v2 W) := by
  obtain ⟨hok, hlt⟩ := accE_ok hacc
  have V := fun w (hb : Below W.heap.size W w) => rowsValid_any 1 q (h.below hb h.lt) (hL.below hb hL.1)
  rw [hok] at V
  obtain ⟨_, _, _, _, hrl, hck⟩ := okStmt_ok hok
  obtain ⟨p0, q0, r0, p1, q1, r1, p2, q2, r2⟩ := A
  obtain ⟨k0, k1, k2⟩ := hA
  simp only at h0 h1 h2 k0 k1 k2
  have HF := Lib.hid (fun (f : Lit → Option Value) (b n : Nat) (u : Value) (w' : World) (hO : Own W w' [mapE Tryz.prog 29 b n f, row 160 5 u (rs.map rowC)]) (hu : ∃ p' c', u = .slice p' rs.length c') (hf : f = putRows (fun _ => none) (r0 ++ (rs ++ r2))) =>
    (show AccPost ⟨p0, q0, r0, p1, q1, r1, p2, q2, r2⟩ 1 q rs v0 v1 v2 W (.returned (.tuple #[.agg #[.int .i64 p0, .int .i64 q0, v0, .int .i64 1, .int .i64 q, u, .int .i64 p2, .int .i64 q2, v2, .map (some b)], .int .i64 0])) w' from by
      unfold AccPost
      rw [if_pos hacc]
      subst hf
      exact ⟨b, n, u, hO, hu, rfl⟩))
  have hlt' : decide (q ≤ q1) = false := by
    have hlt2 : q1 < q := hlt
    simp; omega
  generalize hP : AccPost ⟨p0, q0, r0, p1, q1, r1, p2, q2, r2⟩ 1 q rs v0 v1 v2 W = Post at *
  have HU := Lib.hid (fun (w' : World) (L : List Ent) (hO : Own W w' L) => isL_of_isRows (h.below hO.grown h.lt))
  obtain ⟨s, c, rfl, -⟩ := h.slice
  obtain ⟨s0, c0, rfl, -⟩ := h0.slice
  obtain ⟨s1, c1, rfl, -⟩ := h1.slice
  obtain ⟨s2, c2, rfl, -⟩ := h2.slice
  have R0 := Lib.hid (fun j (hj : j < r0.length) => oldRow h0 rfl hj)
  have R2 := Lib.hid (fun j (hj : j < r2.length) => oldRow h2 rfl hj)
  have K0 := Lib.hid (fun j (hj : j < r0.length) => rows_keys k0 hj)
  have K1 := Lib.hid (fun j (hj : j < rs.length) => rows_keys hck hj)
  have K2 := Lib.hid (fun j (hj : j < r2.length) => rows_keys k2 hj)
  have n0 := rows_len k0
  have n1 := rows_len k1
  have n2 := rows_len k2
  have hmx : maxLen = 9223372036854775807 := rfl
  have HO := (Own.start W).nil 160 5
  clear h0 h1 h2 h k0 k1 k2 hck hok hlt hacc hL hP
  rcases hm with rfl | ⟨mb, rfl⟩
  all_goals
    go_enter Tryz.func130, Tryz.ntmps130
    go_wp2_with (first | ((with_reducible apply wpList_boxAgg _ HO rfl); exact rfl; exact rfl; exact rfl; clear HO; intro b2 w HO; (simp only [Act.put, zA, zB, zC])) | ((have _h : Own W _ (box _ _ :: box _ _ :: _) := HO); clear _h; ((with_reducible apply wpList_allocAgg _ HO rfl); exact rfl; infer_instance; exact rfl; clear HO; intro b4 w HO; (simp only [Act.put, zA, zB, zC]))) | (((with_reducible apply wpList_loadAll HO); exact rfl; exact rfl; (repeat (with_reducible (first | exact At.head _ | apply At.tail))); infer_instance; exact rfl; exact rfl; (simp only [Act.put, zA, zB, zC]))) | (go_at_call 159; go_must ((with_reducible refine (V _ HO.grown).mono ?_); rintro e w ⟨rfl, hb⟩; replace HO := HO.call hb; clear hb)))
    refine region_own HO (by kernel_rfl) (by kernel_rfl) ?_
    clear HO
    intro F HF
    repeat (first | (((with_reducible apply wpQuiet_loadOne HF); exact rfl; exact rfl; (repeat (with_reducible (first | exact At.head _ | apply At.tail))); exact rfl; infer_instance; exact rfl; (simp only [Act.put, zA, zB, zC]))) | go_big_quiet_step (fail))
    refine wpQuiet_nil ?_
    intro x
    have HO := HF.own x
    clear HF
    generalize F x = w at *
    clear x F
    go_wp2_with (first | (first | ((with_reducible apply wpList_loadAll HO); exact rfl; exact rfl; (repeat (with_reducible (first | exact At.head _ | apply At.tail))); infer_instance; exact rfl; exact rfl; (simp only [Act.put, zA, zB, zC])) | ((with_reducible apply wpList_loadOne HO); exact rfl; exact rfl; (repeat (with_reducible (first | exact At.head _ | apply At.tail))); exact rfl; infer_instance; exact rfl; (simp only [Act.put, zA, zB, zC]))) | ((with_reducible apply wpList_storeAll HO); exact rfl; exact rfl; exact rfl; (repeat (with_reducible (exact At.head _))); infer_instance; exact rfl; exact rfl; exact rfl; exact rfl; clear HO; intro w HO; (simp only [Act.put])) | ((with_reducible apply wpList_storePart HO); exact rfl; exact rfl; ((simp [Act.eval]; rfl)); exact rfl; (repeat (with_reducible (first | exact At.head _ | apply At.tail))); infer_instance; exact rfl; exact (by simp); (simp only [putL, List.drop_succ_cons, List.drop_zero, List.take_succ_cons, List.take_zero, List.length_cons, List.length_nil, List.cons_append, List.nil_append, List.append_nil, Nat.reduceAdd]; rfl); exact rfl; exact rfl; clear HO; intro w HO; (simp only [Act.put])) | ((with_reducible apply wpList_loadPart HO); exact rfl; exact rfl; (repeat (with_reducible (first | exact At.head _ | apply At.tail))); infer_instance; exact (Nat.le_of_ble_eq_true rfl); (simp only [List.drop_zero, List.take_succ_cons, List.take_zero]; rfl); exact rfl; (simp only [Act.put, zA, zB, zC])) | ((with_reducible apply wpList_makeMap HO (kt := 29)); exact rfl; exact rfl; clear HO; intro b w HO; (simp only [Act.put, zA, zB, zC])) | ((with_reducible apply wpList_allocAgg _ HO rfl); exact rfl; infer_instance; exact rfl; clear HO; intro b6 w HO; (simp only [Act.put, zA, zB, zC])) | ((with_reducible apply wpList_appendAll HO); exact rfl; infer_instance; infer_instance; ((simp [Act.eval]; rfl)); exact rfl; exact (HU.out _ _ HO); exact rowC_len _; exact rowC_one _; intro _; (repeat (with_reducible (first | exact At.head _ | apply At.tail))); (simp; omega); decide; exact rfl; clear HO; intro v2 w HO hv2; clear hv2; (obtain ⟨⟨su, cu, rfl⟩, -⟩ := HO.rowForm (v := v2) (by (repeat (with_reducible (first | exact At.head _ | apply At.tail))))); simp only [List.nil_append, List.length_map] at HO ⊢; (simp only [Act.put, zA, zB, zC])))

    refine wp_loop_rounds 4 ?_
    rw [rounds_succ]
    go_wp2_with (first | ((with_reducible apply wpList_indexArr (i := 0)); exact rfl; exact rfl; exact rfl; exact Tryz.underlying138; exact (by decide); infer_instance; (simp only [Nat.zero_mul, List.drop_zero, List.take_succ_cons, List.take_zero]; rfl); exact rfl; (simp only [Act.put, zA, zB, zC])) | (((with_reducible apply wpList_loadOne HO); exact rfl; exact rfl; (repeat (with_reducible (exact At.head _))); exact rfl; infer_instance; exact rfl; (simp only [Act.put, zA, zB, zC]))) | ((with_reducible apply wpList_storeAll HO); exact rfl; exact rfl; exact rfl; (repeat (with_reducible (exact At.head _))); infer_instance; exact rfl; exact rfl; exact rfl; exact rfl; clear HO; intro w HO; (simp only [Act.put])) | (((with_reducible apply wpList_allocAgg _ HO rfl); exact rfl; infer_instance; exact rfl; clear HO; intro b8 w HO; (simp only [Act.put, zA, zB, zC]))))
    go_loopw [46] (fun i wr => ∃ j : Nat, j ≤ r0.length ∧ i = .int .i64 (j : Int) ∧ Own W wr [box b8 (.cells #[.int .i64 p0, .int .i64 q0, .slice s0 r0.length c0] 32), box b6 (.cells #[.int .i64 p0, .int .i64 q0, .slice s0 r0.length c0, .int .i64 1, .int .i64 q, .slice su rs.length cu, .int .i64 p2, .int .i64 q2, .slice s2 r2.length c2, .map (some b)] 141), mapE Tryz.prog 29 b (0 + j) (putRows (fun _ => none) (([] : List RowS) ++ r0.take j)), box b4 (.cells #[.int .i64 0, .int .i64 0, .slice none 0 0, .int .i64 0, .int .i64 0, .slice none 0 0, .int .i64 0, .int .i64 0, .slice none 0 0, .map none] 141), row 160 5 (.slice su rs.length cu) (rs.map rowC)]) (fun i _ => r0.length - (intOf i).toNat)
    case atStart => exact ⟨0, by omega, rfl, by simpa [putRows] using HO.sub (by exact .cons_cons _ (.cons_cons _ (.cons_cons _ (.cons_cons _ (.cons _ (.cons _ (.cons_cons _ (List.Sublist.refl _))))))))⟩
    case round =>
      clear HO
      obtain ⟨j, hj, rfl, HO⟩ := hrel
      by_cases hjl : j < r0.length
      · have hjI : (j : Int) < (r0.length : Int) := by omega
        obtain ⟨a, rfl, hcell⟩ := R0.out j hjl
        replace hcell := Lib.hid hcell
        have hk := K0.out j hjl
        have HX := Lib.hid (rows_snoc ([] : List RowS) r0 hjl)
        generalize r0[j] = r at *
        obtain ⟨ro, rd, rc, ra, rq⟩ := r
        replace hk := Lib.hid hk
        go_wp2_with (first | (first | ((with_reducible apply wpList_loadAll HO); exact rfl; exact rfl; (repeat (with_reducible (exact At.head _))); infer_instance; exact rfl; exact rfl; (simp only [Act.put, zA, zB, zC])) | ((with_reducible apply wpList_loadOne HO); exact rfl; exact rfl; (repeat (with_reducible (first | exact At.head _ | apply At.tail))); exact rfl; infer_instance; exact rfl; (simp only [Act.put, zA, zB, zC]))) | ((with_reducible apply wpList_loadAt HO); exact rfl; exact rfl; exact (fun w' h1 => hcell.out w' _ h1); infer_instance; exact rfl; exact rfl; (simp only [Act.put, zA, zB, zC])) | (((with_reducible apply wpList_allocAgg _ HO rfl); exact rfl; infer_instance; exact rfl; clear HO; intro b10 w HO; (simp only [Act.put, zA, zB, zC]))) | ((with_reducible apply wpList_storeAll HO); exact rfl; exact rfl; exact rfl; (repeat (with_reducible (exact At.head _))); infer_instance; exact rfl; exact rfl; exact rfl; exact rfl; clear HO; intro w HO; (simp only [Act.put])) | ((with_reducible apply wpList_loadPart HO); exact rfl; exact rfl; (repeat (with_reducible (exact At.head _))); infer_instance; exact (Nat.le_of_ble_eq_true rfl); (simp only [List.drop_zero]; rfl); exact rfl; (simp only [Act.put, zA, zB, zC])) | ((with_reducible apply wpList_mapPut HO (kt := 29) (et := 160)); exact rfl; exact rfl; exact rfl; exact rfl; (repeat (with_reducible (first | exact At.head _ | apply At.tail))); exact keyKeyed; exact Tryz.underlying139; exact (by omega); exact keyOf_lit hk.out.1 hk.out.2; exact rfl; clear HO; intro w HO; (simp only [Act.put])))
        go_roundw
        case rel => exact ⟨j + 1, by omega, by go_num, by rw [HX.out]; exact HO.sub (by exact .cons _ (.cons_cons _ (.cons_cons _ (.cons_cons _ (.cons_cons _ (.cons_cons _ (List.Sublist.refl _)))))))⟩
        case measure => simp [intOf] <;> omega
      · obtain rfl : j = r0.length := by omega
        rw [List.take_length] at HO
        rw [List.nil_append, Nat.zero_add] at HO
        have HO0 := HO
        go_wp2_with fail
        rw [rounds_succ]
        clear HO0
        go_wp2_with (first | ((with_reducible apply wpList_indexArr (i := 1)); exact rfl; exact rfl; exact rfl; exact Tryz.underlying138; exact (by decide); infer_instance; (simp only [Nat.one_mul, List.drop_succ_cons, List.drop_zero, List.take_succ_cons, List.take_zero]; rfl); exact rfl; (simp only [Act.put, zA, zB, zC])) | (((with_reducible apply wpList_loadOne HO); exact rfl; exact rfl; (repeat (with_reducible (exact At.head _))); exact rfl; infer_instance; exact rfl; (simp only [Act.put, zA, zB, zC]))) | ((with_reducible apply wpList_storeAll HO); exact rfl; exact rfl; exact rfl; (repeat (with_reducible (exact At.head _))); infer_instance; exact rfl; exact rfl; exact rfl; exact rfl; clear HO; intro w HO; (simp only [Act.put])) | (((with_reducible apply wpList_allocAgg _ HO rfl); exact rfl; infer_instance; exact rfl; clear HO; intro b8 w HO; (simp only [Act.put, zA, zB, zC]))))
        go_loopw [46] (fun i wr => ∃ j : Nat, j ≤ rs.length ∧ i = .int .i64 (j : Int) ∧ Own W wr [box b8 (.cells #[.int .i64 1, .int .i64 q, .slice su rs.length cu] 32), box b6 (.cells #[.int .i64 p0, .int .i64 q0, .slice s0 r0.length c0, .int .i64 1, .int .i64 q, .slice su rs.length cu, .int .i64 p2, .int .i64 q2, .slice s2 r2.length c2, .map (some b)] 141), mapE Tryz.prog 29 b (r0.length + j) (putRows (fun _ => none) (r0 ++ rs.take j)), box b4 (.cells #[.int .i64 0, .int .i64 0, .slice none 0 0, .int .i64 0, .int .i64 0, .slice none 0 0, .int .i64 0, .int .i64 0, .slice none 0 0, .map none] 141), row 160 5 (.slice su rs.length cu) (rs.map rowC)]) (fun i _ => rs.length - (intOf i).toNat)
        case atStart => exact ⟨0, by omega, rfl, by simpa using HO.sub (by exact .cons_cons _ (.cons _ (.cons_cons _ (.cons_cons _ (.cons_cons _ (.cons_cons _ (List.Sublist.refl _)))))))⟩
        case round =>
          clear HO
          obtain ⟨j, hj, rfl, HO⟩ := hrel
          by_cases hjl : j < rs.length
          · have hjI : (j : Int) < (rs.length : Int) := by omega
            obtain ⟨q9, c9, h9⟩ := (HO.rowForm (t := 160) (k := 5) (v := .slice su rs.length cu) (by (repeat (with_reducible (first | exact At.head _ | apply At.tail))))).2 (by rw [List.length_map]; omega)
            rw [List.length_map] at h9
            cases h9
            have HGJ := Lib.hid (show (rs.map rowC)[j]? = some (rowC rs[j]) by rw [List.getElem?_map, List.getElem?_eq_getElem hjl]; rfl)
            have hk := K1.out j hjl
            have HX := Lib.hid (rows_snoc r0 rs hjl)
            generalize rs[j] = r at *
            obtain ⟨ro, rd, rc, ra, rq⟩ := r
            replace hk := Lib.hid hk
            go_wp2_with (first | (first | ((with_reducible apply wpList_loadAll HO); exact rfl; exact rfl; (repeat (with_reducible (exact At.head _))); infer_instance; exact rfl; exact rfl; (simp only [Act.put, zA, zB, zC])) | ((with_reducible apply wpList_loadOne HO); exact rfl; exact rfl; (repeat (with_reducible (first | exact At.head _ | apply At.tail))); exact rfl; infer_instance; exact rfl; (simp only [Act.put, zA, zB, zC]))) | ((with_reducible apply wpList_loadAt HO); exact rfl; exact rfl; exact (fun w' h1 => h1.rowAt (by (repeat (with_reducible (first | exact At.head _ | apply At.tail)))) (rowC_len rs) HGJ.out); infer_instance; exact rfl; exact rfl; (simp only [Act.put, zA, zB, zC])) | (((with_reducible apply wpList_allocAgg _ HO rfl); exact rfl; infer_instance; exact rfl; clear HO; intro b10 w HO; (simp only [Act.put, zA, zB, zC]))) | ((with_reducible apply wpList_storeAll HO); exact rfl; exact rfl; exact rfl; (repeat (with_reducible (exact At.head _))); infer_instance; exact rfl; exact rfl; exact rfl; exact rfl; clear HO; intro w HO; (simp only [Act.put])) | ((with_reducible apply wpList_loadPart HO); exact rfl; exact rfl; (repeat (with_reducible (exact At.head _))); infer_instance; exact (Nat.le_of_ble_eq_true rfl); (simp only [List.drop_zero]; rfl); exact rfl; (simp only [Act.put, zA, zB, zC])) | ((with_reducible apply wpList_mapPut HO (kt := 29) (et := 160)); exact rfl; exact rfl; exact rfl; exact rfl; (repeat (with_reducible (first | exact At.head _ | apply At.tail))); exact keyKeyed; exact Tryz.underlying139; exact (by omega); exact keyOf_lit hk.out.1 hk.out.2; exact rfl; clear HO; intro w HO; (simp only [Act.put])))
            go_roundw
            case rel => exact ⟨j + 1, by omega, by go_num, by rw [HX.out]; exact HO.sub (by exact .cons _ (.cons_cons _ (.cons_cons _ (.cons_cons _ (.cons_cons _ (.cons_cons _ (List.Sublist.refl _)))))))⟩
            case measure => simp [intOf] <;> omega
          · obtain rfl : j = rs.length := by omega
            rw [List.take_length] at HO
            have HO0 := HO
            go_wp2_with fail
            rw [rounds_succ]
            clear HO0
            go_wp2_with (first | ((with_reducible apply wpList_indexArr (i := 2)); exact rfl; exact rfl; exact rfl; exact Tryz.underlying138; exact (by decide); infer_instance; (simp only [Nat.reduceMul, List.drop_succ_cons, List.drop_zero, List.take_succ_cons, List.take_zero]; rfl); exact rfl; (simp only [Act.put, zA, zB, zC])) | (((with_reducible apply wpList_loadOne HO); exact rfl; exact rfl; (repeat (with_reducible (exact At.head _))); exact rfl; infer_instance; exact rfl; (simp only [Act.put, zA, zB, zC]))) | ((with_reducible apply wpList_storeAll HO); exact rfl; exact rfl; exact rfl; (repeat (with_reducible (exact At.head _))); infer_instance; exact rfl; exact rfl; exact rfl; exact rfl; clear HO; intro w HO; (simp only [Act.put])) | (((with_reducible apply wpList_allocAgg _ HO rfl); exact rfl; infer_instance; exact rfl; clear HO; intro b8 w HO; (simp only [Act.put, zA, zB, zC]))))
            go_loopw [46] (fun i wr => ∃ j : Nat, j ≤ r2.length ∧ i = .int .i64 (j : Int) ∧ Own W wr [box b8 (.cells #[.int .i64 p2, .int .i64 q2, .slice s2 r2.length c2] 32), box b6 (.cells #[.int .i64 p0, .int .i64 q0, .slice s0 r0.length c0, .int .i64 1, .int .i64 q, .slice su rs.length cu, .int .i64 p2, .int .i64 q2, .slice s2 r2.length c2, .map (some b)] 141), mapE Tryz.prog 29 b ((r0.length + rs.length) + j) (putRows (fun _ => none) ((r0 ++ rs) ++ r2.take j)), box b4 (.cells #[.int .i64 0, .int .i64 0, .slice none 0 0, .int .i64 0, .int .i64 0, .slice none 0 0, .int .i64 0, .int .i64 0, .slice none 0 0, .map none] 141), row 160 5 (.slice su rs.length cu) (rs.map rowC)]) (fun i _ => r2.length - (intOf i).toNat)
            case atStart => exact ⟨0, by omega, rfl, by simpa using HO.sub (by exact .cons_cons _ (.cons _ (.cons_cons _ (.cons_cons _ (.cons_cons _ (.cons_cons _ (List.Sublist.refl _)))))))⟩
            case round =>
              clear HO
              obtain ⟨j, hj, rfl, HO⟩ := hrel
              by_cases hjl : j < r2.length
              · have hjI : (j : Int) < (r2.length : Int) := by omega
                obtain ⟨a, rfl, hcell⟩ := R2.out j hjl
                replace hcell := Lib.hid hcell
                have hk := K2.out j hjl
                have HX := Lib.hid (rows_snoc (r0 ++ rs) r2 hjl)
                generalize r2[j] = r at *
                obtain ⟨ro, rd, rc, ra, rq⟩ := r
                replace hk := Lib.hid hk
                go_wp2_with (first | (first | ((with_reducible apply wpList_loadAll HO); exact rfl; exact rfl; (repeat (with_reducible (exact At.head _))); infer_instance; exact rfl; exact rfl; (simp only [Act.put, zA, zB, zC])) | ((with_reducible apply wpList_loadOne HO); exact rfl; exact rfl; (repeat (with_reducible (first | exact At.head _ | apply At.tail))); exact rfl; infer_instance; exact rfl; (simp only [Act.put, zA, zB, zC]))) | ((with_reducible apply wpList_loadAt HO); exact rfl; exact rfl; exact (fun w' h1 => hcell.out w' _ h1); infer_instance; exact rfl; exact rfl; (simp only [Act.put, zA, zB, zC])) | (((with_reducible apply wpList_allocAgg _ HO rfl); exact rfl; infer_instance; exact rfl; clear HO; intro b10 w HO; (simp only [Act.put, zA, zB, zC]))) | ((with_reducible apply wpList_storeAll HO); exact rfl; exact rfl; exact rfl; (repeat (with_reducible (exact At.head _))); infer_instance; exact rfl; exact rfl; exact rfl; exact rfl; clear HO; intro w HO; (simp only [Act.put])) | ((with_reducible apply wpList_loadPart HO); exact rfl; exact rfl; (repeat (with_reducible (exact At.head _))); infer_instance; exact (Nat.le_of_ble_eq_true rfl); (simp only [List.drop_zero]; rfl); exact rfl; (simp only [Act.put, zA, zB, zC])) | ((with_reducible apply wpList_mapPut HO (kt := 29) (et := 160)); exact rfl; exact rfl; exact rfl; exact rfl; (repeat (with_reducible (first | exact At.head _ | apply At.tail))); exact keyKeyed; exact Tryz.underlying139; exact (by omega); exact keyOf_lit hk.out.1 hk.out.2; exact rfl; clear HO; intro w HO; (simp only [Act.put])))
                go_roundw
                case rel => exact ⟨j + 1, by omega, by go_num, by rw [HX.out]; exact HO.sub (by exact .cons _ (.cons_cons _ (.cons_cons _ (.cons_cons _ (.cons_cons _ (.cons_cons _ (List.Sublist.refl _)))))))⟩
                case measure => simp [intOf] <;> omega
              · obtain rfl : j = r2.length := by omega
                rw [List.take_length] at HO
                go_wp2_with fail
                rw [rounds_succ]
                go_wp2_with (first | (((with_reducible apply wpList_loadAll HO); exact rfl; exact rfl; (repeat (with_reducible (first | exact At.head _ | apply At.tail))); infer_instance; exact rfl; exact rfl; (simp only [Act.put, zA, zB, zC]))) | ((with_reducible apply wpList_storeAll HO); exact rfl; exact rfl; exact rfl; (repeat (with_reducible (first | exact At.head _ | apply At.tail))); infer_instance; exact rfl; exact rfl; exact rfl; exact rfl; clear HO; intro w HO; (simp only [Act.put])))
                refine bodyPost_ret (results_box HO rfl rfl (by (repeat (with_reducible (first | exact At.head _ | apply At.tail)))) inferInstance rfl rfl) rfl ?_
                exact HF.out _ _ _ _ _ (HO.sub (by exact .cons _ (.cons _ (.cons_cons _ (.cons _ (.cons_cons _ (List.Sublist.refl _))))))) ⟨_, _, rfl⟩ (by rw [List.append_assoc])

set_option maxHeartbeats 8000000 in
set_option maxRecDepth 100000 in
theorem accept2_any {W : World} {v0 v1 v2 v : Value} (A : InS) (m : Value) (q : Int) (rs : List RowS) (h0 : IsRows W v0 A.r0) (h1 : IsRows W v1 A.r1) (h2 : IsRows W v2 A.r2) (h : IsRows W v rs) (hA : InOk A) (hm : m = .map none ∨ ∃ b, m = .map (some b)) (hL : Laid W) (hacc : accE A 2 q rs = 0) :
    Calls Tryz.prog 130 #[.agg #[.int .i64 (A).p0, .int .i64 (A).q0, v0, .int .i64 (A).p1, .int .i64 (A).q1, v1, .int .i64 (A).p2, .int .i64 (A).q2, v2, m], .agg #[.int .i64 2, .int .i64 q, v]] W (AccPost A 2 q rs v0 v1 v2 W) := by
  obtain ⟨hok, hlt⟩ := accE_ok hacc
  have V := fun w (hb : Below W.heap.size W w) => rowsValid_any 2 q (h.below hb h.lt) (hL.below hb hL.1)
  rw [hok] at V
  obtain ⟨_, _, _, _, hrl, hck⟩ := okStmt_ok hok
  obtain ⟨p0, q0, r0, p1, q1, r1, p2, q2, r2⟩ := A
  obtain ⟨k0, k1, k2⟩ := hA
  simp only at h0 h1 h2 k0 k1 k2
  have HF := Lib.hid (fun (f : Lit → Option Value) (b n : Nat) (u : Value) (w' : World) (hO : Own W w' [mapE Tryz.prog 29 b n f, row 160 5 u (rs.map rowC)]) (hu : ∃ p' c', u = .slice p' rs.length c') (hf : f = putRows (fun _ => none) (r0 ++ (r1 ++ rs))) =>
    (show AccPost ⟨p0, q0, r0, p1, q1, r1, p2, q2, r2⟩ 2 q rs v0 v1 v2 W (.returned (.tuple #[.agg #[.int .i64 p0, .int .i64 q0, v0, .int .i64 p1, .int .i64 q1, v1, .int .i64 2, .int .i64 q, u, .map (some b)], .int .i64 0])) w' from by
      unfold AccPost
      rw [if_pos hacc]
      subst hf
      exact ⟨b, n, u, hO, hu, rfl⟩))
  have hlt' : decide (q ≤ q2) = false := by
    have hlt2 : q2 < q := hlt
    simp; omega
  generalize hP : AccPost ⟨p0, q0, r0, p1, q1, r1, p2, q2, r2⟩ 2 q rs v0 v1 v2 W = Post at *
  have HU := Lib.hid (fun (w' : World) (L : List Ent) (hO : Own W w' L) => isL_of_isRows (h.below hO.grown h.lt))
  obtain ⟨s, c, rfl, -⟩ := h.slice
  obtain ⟨s0, c0, rfl, -⟩ := h0.slice
  obtain ⟨s1, c1, rfl, -⟩ := h1.slice
  obtain ⟨s2, c2, rfl, -⟩ := h2.slice
  have R0 := Lib.hid (fun j (hj : j < r0.length) => oldRow h0 rfl hj)
  have R1 := Lib.hid (fun j (hj : j < r1.length) => oldRow h1 rfl hj)
  have K0 := Lib.hid (fun j (hj : j < r0.length) => rows_keys k0 hj)
  have K1 := Lib.hid (fun j (hj : j < r1.length) => rows_keys k1 hj)
  have K2 := Lib.hid (fun j (hj : j < rs.length) => rows_keys hck hj)
  have n0 := rows_len k0
  have n1 := rows_len k1
  have n2 := rows_len k2
  have hmx : maxLen = 9223372036854775807 := rfl
  have HO := (Own.start W).nil 160 5
  clear h0 h1 h2 h k0 k1 k2 hck hok hlt hacc hL hP
  rcases hm with rfl | ⟨mb, rfl⟩
  all_goals
    go_enter Tryz.func130, Tryz.ntmps130
    go_wp2_with (first | ((with_reducible apply wpList_boxAgg _ HO rfl); exact rfl; exact rfl; exact rfl; clear HO; intro b2 w HO; (simp only [Act.put, zA, zB, zC])) | ((have _h : Own W _ (box _ _ :: box _ _ :: _) := HO); clear _h; ((with_reducible apply wpList_allocAgg _ HO rfl); exact rfl; infer_instance; exact rfl; clear HO; intro b4 w HO; (simp only [Act.put, zA, zB, zC]))) | (((with_reducible apply wpList_loadAll HO); exact rfl; exact rfl; (repeat (with_reducible (first | exact At.head _ | apply At.tail))); infer_instance; exact rfl; exact rfl; (simp only [Act.put, zA, zB, zC]))) | (go_at_call 159; go_must ((with_reducible refine (V _ HO.grown).mono ?_); rintro e w ⟨rfl, hb⟩; replace HO := HO.call hb; clear hb)))
    refine region_own HO (by kernel_rfl) (by kernel_rfl) ?_
    clear HO
    intro F HF
    repeat (first | (((with_reducible apply wpQuiet_loadOne HF); exact rfl; exact rfl; (repeat (with_reducible (first | exact At.head _ | apply At.tail))); exact rfl; infer_instance; exact rfl; (simp only [Act.put, zA, zB, zC]))) | go_big_quiet_step (fail))
    refine wpQuiet_nil ?_
    intro x
    have HO := HF.own x
    clear HF
    generalize F x = w at *
    clear x F
    go_wp2_with (first | (first | ((with_reducible apply wpList_loadAll HO); exact rfl; exact rfl; (repeat (with_reducible (first | exact At.head _ | apply At.tail))); infer_instance; exact rfl; exact rfl; (simp only [Act.put, zA, zB, zC])) | ((with_reducible apply wpList_loadOne HO); exact rfl; exact rfl; (repeat (with_reducible (first | exact At.head _ | apply At.tail))); exact rfl; infer_instance; exact rfl; (simp only [Act.put, zA, zB, zC]))) | ((with_reducible apply wpList_storeAll HO); exact rfl; exact rfl; exact rfl; (repeat (with_reducible (exact At.head _))); infer_instance; exact rfl; exact rfl; exact rfl; exact rfl; clear HO; intro w HO; (simp only [Act.put])) | ((with_reducible apply wpList_storePart HO); exact rfl; exact rfl; ((simp [Act.eval]; rfl)); exact rfl; (repeat (with_reducible (first | exact At.head _ | apply At.tail))); infer_instance; exact rfl; exact (by simp); (simp only [putL, List.drop_succ_cons, List.drop_zero, List.take_succ_cons, List.take_zero, List.length_cons, List.length_nil, List.cons_append, List.nil_append, List.append_nil, Nat.reduceAdd]; rfl); exact rfl; exact rfl; clear HO; intro w HO; (simp only [Act.put])) | ((with_reducible apply wpList_loadPart HO); exact rfl; exact rfl; (repeat (with_reducible (first | exact At.head _ | apply At.tail))); infer_instance; exact (Nat.le_of_ble_eq_true rfl); (simp only [List.drop_zero, List.take_succ_cons, List.take_zero]; rfl); exact rfl; (simp only [Act.put, zA, zB, zC])) | ((with_reducible apply wpList_makeMap HO (kt := 29)); exact rfl; exact rfl; clear HO; intro b w HO; (simp only [Act.put, zA, zB, zC])) | ((with_reducible apply wpList_allocAgg _ HO rfl); exact rfl; infer_instance; exact rfl; clear HO; intro b6 w HO; (simp only [Act.put, zA, zB, zC])) | ((with_reducible apply wpList_appendAll HO); exact rfl; infer_instance; infer_instance; ((simp [Act.eval]; rfl)); exact rfl; exact (HU.out _ _ HO); exact rowC_len _; exact rowC_one _; intro _; (repeat (with_reducible (first | exact At.head _ | apply At.tail))); (simp; omega); decide; exact rfl; clear HO; intro v2 w HO hv2; clear hv2; (obtain ⟨⟨su, cu, rfl⟩, -⟩ := HO.rowForm (v := v2) (by (repeat (with_reducible (first | exact At.head _ | apply At.tail))))); simp only [List.nil_append, List.length_map] at HO ⊢; (simp only [Act.put, zA, zB, zC])))

    refine wp_loop_rounds 4 ?_
    rw [rounds_succ]
    go_wp2_with (first | ((with_reducible apply wpList_indexArr (i := 0)); exact rfl; exact rfl; exact rfl; exact Tryz.underlying138; exact (by decide); infer_instance; (simp only [Nat.zero_mul, List.drop_zero, List.take_succ_cons, List.take_zero]; rfl); exact rfl; (simp only [Act.put, zA, zB, zC])) | (((with_reducible apply wpList_loadOne HO); exact rfl; exact rfl; (repeat (with_reducible (exact At.head _))); exact rfl; infer_instance; exact rfl; (simp only [Act.put, zA, zB, zC]))) | ((with_reducible apply wpList_storeAll HO); exact rfl; exact rfl; exact rfl; (repeat (with_reducible (exact At.head _))); infer_instance; exact rfl; exact rfl; exact rfl; exact rfl; clear HO; intro w HO; (simp only [Act.put])) | (((with_reducible apply wpList_allocAgg _ HO rfl); exact rfl; infer_instance; exact rfl; clear HO; intro b8 w HO; (simp only [Act.put, zA, zB, zC]))))
    go_loopw [46] (fun i wr => ∃ j : Nat, j ≤ r0.length ∧ i = .int .i64 (j : Int) ∧ Own W wr [box b8 (.cells #[.int .i64 p0, .int .i64 q0, .slice s0 r0.length c0] 32), box b6 (.cells #[.int .i64 p0, .int .i64 q0, .slice s0 r0.length c0, .int .i64 p1, .int .i64 q1, .slice s1 r1.length c1, .int .i64 2, .int .i64 q, .slice su rs.length cu, .map (some b)] 141), mapE Tryz.prog 29 b (0 + j) (putRows (fun _ => none) (([] : List RowS) ++ r0.take j)), box b4 (.cells #[.int .i64 0, .int .i64 0, .slice none 0 0, .int .i64 0, .int .i64 0, .slice none 0 0, .int .i64 0, .int .i64 0, .slice none 0 0, .map none] 141), row 160 5 (.slice su rs.length cu) (rs.map rowC)]) (fun i _ => r0.length - (intOf i).toNat)
    case atStart => exact ⟨0, by omega, rfl, by simpa [putRows] using HO.sub (by exact .cons_cons _ (.cons_cons _ (.cons_cons _ (.cons_cons _ (.cons _ (.cons _ (.cons_cons _ (List.Sublist.refl _))))))))⟩
    case round =>
      clear HO
      obtain ⟨j, hj, rfl, HO⟩ := hrel
      by_cases hjl : j < r0.length
      · have hjI : (j : Int) < (r0.length : Int) := by omega
        obtain ⟨a, rfl, hcell⟩ := R0.out j hjl
        replace hcell := Lib.hid hcell
        have hk := K0.out j hjl
        have HX := Lib.hid (rows_snoc ([] : List RowS) r0 hjl)
        generalize r0[j] = r at *
        obtain ⟨ro, rd, rc, ra, rq⟩ := r
        replace hk := Lib.hid hk
        go_wp2_with (first | (first | ((with_reducible apply wpList_loadAll HO); exact rfl; exact rfl; (repeat (with_reducible (exact At.head _))); infer_instance; exact rfl; exact rfl; (simp only [Act.put, zA, zB, zC])) | ((with_reducible apply wpList_loadOne HO); exact rfl; exact rfl; (repeat (with_reducible (first | exact At.head _ | apply At.tail))); exact rfl; infer_instance; exact rfl; (simp only [Act.put, zA, zB, zC]))) | ((with_reducible apply wpList_loadAt HO); exact rfl; exact rfl; exact (fun w' h1 => hcell.out w' _ h1); infer_instance; exact rfl; exact rfl; (simp only [Act.put, zA, zB, zC])) | (((with_reducible apply wpList_allocAgg _ HO rfl); exact rfl; infer_instance; exact rfl; clear HO; intro b10 w HO; (simp only [Act.put, zA, zB, zC]))) | ((with_reducible apply wpList_storeAll HO); exact rfl; exact rfl; exact rfl; (repeat (with_reducible (exact At.head _))); infer_instance; exact rfl; exact rfl; exact rfl; exact rfl; clear HO; intro w HO; (simp only [Act.put])) | ((with_reducible apply wpList_loadPart HO); exact rfl; exact rfl; (repeat (with_reducible (exact At.head _))); infer_instance; exact (Nat.le_of_ble_eq_true rfl); (simp only [List.drop_zero]; rfl); exact rfl; (simp only [Act.put, zA, zB, zC])) | ((with_reducible apply wpList_mapPut HO (kt := 29) (et := 160)); exact rfl; exact rfl; exact rfl; exact rfl; (repeat (with_reducible (first | exact At.head _ | apply At.tail))); exact keyKeyed; exact Tryz.underlying139; exact (by omega); exact keyOf_lit hk.out.1 hk.out.2; exact rfl; clear HO; intro w HO; (simp only [Act.put])))
        go_roundw
        case rel => exact ⟨j + 1, by omega, by go_num, by rw [HX.out]; exact HO.sub (by exact .cons _ (.cons_cons _ (.cons_cons _ (.cons_cons _ (.cons_cons _ (.cons_cons _ (List.Sublist.refl _)))))))⟩
        case measure => simp [intOf] <;> omega
      · obtain rfl : j = r0.length := by omega
        rw [List.take_length] at HO
        rw [List.nil_append, Nat.zero_add] at HO
        have HO0 := HO
        go_wp2_with fail
        rw [rounds_succ]
        clear HO0
        go_wp2_with (first | ((with_reducible apply wpList_indexArr (i := 1)); exact rfl; exact rfl; exact rfl; exact Tryz.underlying138; exact (by decide); infer_instance; (simp only [Nat.one_mul, List.drop_succ_cons, List.drop_zero, List.take_succ_cons, List.take_zero]; rfl); exact rfl; (simp only [Act.put, zA, zB, zC])) | (((with_reducible apply wpList_loadOne HO); exact rfl; exact rfl; (repeat (with_reducible (exact At.head _))); exact rfl; infer_instance; exact rfl; (simp only [Act.put, zA, zB, zC]))) | ((with_reducible apply wpList_storeAll HO); exact rfl; exact rfl; exact rfl; (repeat (with_reducible (exact At.head _))); infer_instance; exact rfl; exact rfl; exact rfl; exact rfl; clear HO; intro w HO; (simp only [Act.put])) | (((with_reducible apply wpList_allocAgg _ HO rfl); exact rfl; infer_instance; exact rfl; clear HO; intro b8 w HO; (simp only [Act.put, zA, zB, zC]))))
        go_loopw [46] (fun i wr => ∃ j : Nat, j ≤ r1.length ∧ i = .int .i64 (j : Int) ∧ Own W wr [box b8 (.cells #[.int .i64 p1, .int .i64 q1, .slice s1 r1.length c1] 32), box b6 (.cells #[.int .i64 p0, .int .i64 q0, .slice s0 r0.length c0, .int .i64 p1, .int .i64 q1, .slice s1 r1.length c1, .int .i64 2, .int .i64 q, .slice su rs.length cu, .map (some b)] 141), mapE Tryz.prog 29 b (r0.length + j) (putRows (fun _ => none) (r0 ++ r1.take j)), box b4 (.cells #[.int .i64 0, .int .i64 0, .slice none 0 0, .int .i64 0, .int .i64 0, .slice none 0 0, .int .i64 0, .int .i64 0, .slice none 0 0, .map none] 141), row 160 5 (.slice su rs.length cu) (rs.map rowC)]) (fun i _ => r1.length - (intOf i).toNat)
        case atStart => exact ⟨0, by omega, rfl, by simpa using HO.sub (by exact .cons_cons _ (.cons _ (.cons_cons _ (.cons_cons _ (.cons_cons _ (.cons_cons _ (List.Sublist.refl _)))))))⟩
        case round =>
          clear HO
          obtain ⟨j, hj, rfl, HO⟩ := hrel
          by_cases hjl : j < r1.length
          · have hjI : (j : Int) < (r1.length : Int) := by omega
            obtain ⟨a, rfl, hcell⟩ := R1.out j hjl
            replace hcell := Lib.hid hcell
            have hk := K1.out j hjl
            have HX := Lib.hid (rows_snoc r0 r1 hjl)
            generalize r1[j] = r at *
            obtain ⟨ro, rd, rc, ra, rq⟩ := r
            replace hk := Lib.hid hk
            go_wp2_with (first | (first | ((with_reducible apply wpList_loadAll HO); exact rfl; exact rfl; (repeat (with_reducible (exact At.head _))); infer_instance; exact rfl; exact rfl; (simp only [Act.put, zA, zB, zC])) | ((with_reducible apply wpList_loadOne HO); exact rfl; exact rfl; (repeat (with_reducible (first | exact At.head _ | apply At.tail))); exact rfl; infer_instance; exact rfl; (simp only [Act.put, zA, zB, zC]))) | ((with_reducible apply wpList_loadAt HO); exact rfl; exact rfl; exact (fun w' h1 => hcell.out w' _ h1); infer_instance; exact rfl; exact rfl; (simp only [Act.put, zA, zB, zC])) | (((with_reducible apply wpList_allocAgg _ HO rfl); exact rfl; infer_instance; exact rfl; clear HO; intro b10 w HO; (simp only [Act.put, zA, zB, zC]))) | ((with_reducible apply wpList_storeAll HO); exact rfl; exact rfl; exact rfl; (repeat (with_reducible (exact At.head _))); infer_instance; exact rfl; exact rfl; exact rfl; exact rfl; clear HO; intro w HO; (simp only [Act.put])) | ((with_reducible apply wpList_loadPart HO); exact rfl; exact rfl; (repeat (with_reducible (exact At.head _))); infer_instance; exact (Nat.le_of_ble_eq_true rfl); (simp only [List.drop_zero]; rfl); exact rfl; (simp only [Act.put, zA, zB, zC])) | ((with_reducible apply wpList_mapPut HO (kt := 29) (et := 160)); exact rfl; exact rfl; exact rfl; exact rfl; (repeat (with_reducible (first | exact At.head _ | apply At.tail))); exact keyKeyed; exact Tryz.underlying139; exact (by omega); exact keyOf_lit hk.out.1 hk.out.2; exact rfl; clear HO; intro w HO; (simp only [Act.put])))
            go_roundw
            case rel => exact ⟨j + 1, by omega, by go_num, by rw [HX.out]; exact HO.sub (by exact .cons _ (.cons_cons _ (.cons_cons _ (.cons_cons _ (.cons_cons _ (.cons_cons _ (List.Sublist.refl _)))))))⟩
            case measure => simp [intOf] <;> omega
          · obtain rfl : j = r1.length := by omega
            rw [List.take_length] at HO
            have HO0 := HO
            go_wp2_with fail
            rw [rounds_succ]
            clear HO0
            go_wp2_with (first | ((with_reducible apply wpList_indexArr (i := 2)); exact rfl; exact rfl; exact rfl; exact Tryz.underlying138; exact (by decide); infer_instance; (simp only [Nat.reduceMul, List.drop_succ_cons, List.drop_zero, List.take_succ_cons, List.take_zero]; rfl); exact rfl; (simp only [Act.put, zA, zB, zC])) | (((with_reducible apply wpList_loadOne HO); exact rfl; exact rfl; (repeat (with_reducible (exact At.head _))); exact rfl; infer_instance; exact rfl; (simp only [Act.put, zA, zB, zC]))) | ((with_reducible apply wpList_storeAll HO); exact rfl; exact rfl; exact rfl; (repeat (with_reducible (exact At.head _))); infer_instance; exact rfl; exact rfl; exact rfl; exact rfl; clear HO; intro w HO; (simp only [Act.put])) | (((with_reducible apply wpList_allocAgg _ HO rfl); exact rfl; infer_instance; exact rfl; clear HO; intro b8 w HO; (simp only [Act.put, zA, zB, zC]))))
            go_loopw [46] (fun i wr => ∃ j : Nat, j ≤ rs.length ∧ i = .int .i64 (j : Int) ∧ Own W wr [box b8 (.cells #[.int .i64 2, .int .i64 q, .slice su rs.length cu] 32), box b6 (.cells #[.int .i64 p0, .int .i64 q0, .slice s0 r0.length c0, .int .i64 p1, .int .i64 q1, .slice s1 r1.length c1, .int .i64 2, .int .i64 q, .slice su rs.length cu, .map (some b)] 141), mapE Tryz.prog 29 b ((r0.length + r1.length) + j) (putRows (fun _ => none) ((r0 ++ r1) ++ rs.take j)), box b4 (.cells #[.int .i64 0, .int .i64 0, .slice none 0 0, .int .i64 0, .int .i64 0, .slice none 0 0, .int .i64 0, .int .i64 0, .slice none 0 0, .map none] 141), row 160 5 (.slice su rs.length cu) (rs.map rowC)]) (fun i _ => rs.length - (intOf i).toNat)
            case atStart => exact ⟨0, by omega, rfl, by simpa using HO.sub (by exact .cons_cons _ (.cons _ (.cons_cons _ (.cons_cons _ (.cons_cons _ (.cons_cons _ (List.Sublist.refl _)))))))⟩
            case round =>
              clear HO
              obtain ⟨j, hj, rfl, HO⟩ := hrel
              by_cases hjl : j < rs.length
              · have hjI : (j : Int) < (rs.length : Int) := by omega
                obtain ⟨q9, c9, h9⟩ := (HO.rowForm (t := 160) (k := 5) (v := .slice su rs.length cu) (by (repeat (with_reducible (first | exact At.head _ | apply At.tail))))).2 (by rw [List.length_map]; omega)
                rw [List.length_map] at h9
                cases h9
                have HGJ := Lib.hid (show (rs.map rowC)[j]? = some (rowC rs[j]) by rw [List.getElem?_map, List.getElem?_eq_getElem hjl]; rfl)
                have hk := K2.out j hjl
                have HX := Lib.hid (rows_snoc (r0 ++ r1) rs hjl)
                generalize rs[j] = r at *
                obtain ⟨ro, rd, rc, ra, rq⟩ := r
                replace hk := Lib.hid hk
                go_wp2_with (first | (first | ((with_reducible apply wpList_loadAll HO); exact rfl; exact rfl; (repeat (with_reducible (exact At.head _))); infer_instance; exact rfl; exact rfl; (simp only [Act.put, zA, zB, zC])) | ((with_reducible apply wpList_loadOne HO); exact rfl; exact rfl; (repeat (with_reducible (first | exact At.head _ | apply At.tail))); exact rfl; infer_instance; exact rfl; (simp only [Act.put, zA, zB, zC]))) | ((with_reducible apply wpList_loadAt HO); exact rfl; exact rfl; exact (fun w' h1 => h1.rowAt (by (repeat (with_reducible (first | exact At.head _ | apply At.tail)))) (rowC_len rs) HGJ.out); infer_instance; exact rfl; exact rfl; (simp only [Act.put, zA, zB, zC])) | (((with_reducible apply wpList_allocAgg _ HO rfl); exact rfl; infer_instance; exact rfl; clear HO; intro b10 w HO; (simp only [Act.put, zA, zB, zC]))) | ((with_reducible apply wpList_storeAll HO); exact rfl; exact rfl; exact rfl; (repeat (with_reducible (exact At.head _))); infer_instance; exact rfl; exact rfl; exact rfl; exact rfl; clear HO; intro w HO; (simp only [Act.put])) | ((with_reducible apply wpList_loadPart HO); exact rfl; exact rfl; (repeat (with_reducible (exact At.head _))); infer_instance; exact (Nat.le_of_ble_eq_true rfl); (simp only [List.drop_zero]; rfl); exact rfl; (simp only [Act.put, zA, zB, zC])) | ((with_reducible apply wpList_mapPut HO (kt := 29) (et := 160)); exact rfl; exact rfl; exact rfl; exact rfl; (repeat (with_reducible (first | exact At.head _ | apply At.tail))); exact keyKeyed; exact Tryz.underlying139; exact (by omega); exact keyOf_lit hk.out.1 hk.out.2; exact rfl; clear HO; intro w HO; (simp only [Act.put])))
                go_roundw
                case rel => exact ⟨j + 1, by omega, by go_num, by rw [HX.out]; exact HO.sub (by exact .cons _ (.cons_cons _ (.cons_cons _ (.cons_cons _ (.cons_cons _ (.cons_cons _ (List.Sublist.refl _)))))))⟩
                case measure => simp [intOf] <;> omega
              · obtain rfl : j = rs.length := by omega
                rw [List.take_length] at HO
                go_wp2_with fail
                rw [rounds_succ]
                go_wp2_with (first | (((with_reducible apply wpList_loadAll HO); exact rfl; exact rfl; (repeat (with_reducible (first | exact At.head _ | apply At.tail))); infer_instance; exact rfl; exact rfl; (simp only [Act.put, zA, zB, zC]))) | ((with_reducible apply wpList_storeAll HO); exact rfl; exact rfl; exact rfl; (repeat (with_reducible (first | exact At.head _ | apply At.tail))); infer_instance; exact rfl; exact rfl; exact rfl; exact rfl; clear HO; intro w HO; (simp only [Act.put])))
                refine bodyPost_ret (results_box HO rfl rfl (by (repeat (with_reducible (first | exact At.head _ | apply At.tail)))) inferInstance rfl rfl) rfl ?_
                exact HF.out _ _ _ _ _ (HO.sub (by exact .cons _ (.cons _ (.cons_cons _ (.cons _ (.cons_cons _ (List.Sublist.refl _))))))) ⟨_, _, rfl⟩ (by rw [List.append_assoc])
end Go.Proofs.YtibabfedpdoofaaGreatDoor
namespace Go.Proofs.YtibabfedpdoofaaGreatDoor
open Go.RowKit Go.Own Go.Maps

set_option maxHeartbeats 8000000 in
set_option maxRecDepth 100000 in
theorem accept_any {W : World} {v0 v1 v2 v m : Value} (A : InS) (p q : Int) (rs : List RowS) (h0 : IsRows W v0 A.r0) (h1 : IsRows W v1 A.r1) (h2 : IsRows W v2 A.r2) (h : IsRows W v rs) (hA : InOk A) (hm : m = .map none ∨ ∃ b, m = .map (some b)) (hL : Laid W) :
    Calls Tryz.prog 130 #[.agg #[.int .i64 (A).p0, .int .i64 (A).q0, v0, .int .i64 (A).p1, .int .i64 (A).q1, v1, .int .i64 (A).p2, .int .i64 (A).q2, v2, m], .agg #[.int .i64 p, .int .i64 q, v]] W (AccPost A p q rs v0 v1 v2 W) := by
  by_cases hacc : accE A p q rs = 0
  · obtain ⟨_, _, p0, p2, _, _⟩ := okStmt_ok (accE_ok hacc).1
    have hp : p = 0 ∨ p = 1 ∨ p = 2 := by omega
    rcases hp with rfl | rfl | rfl
    · exact accept0_any A m q rs h0 h1 h2 h hA hm hL hacc
    · exact accept1_any A m q rs h0 h1 h2 h hA hm hL hacc
    · exact accept2_any A m q rs h0 h1 h2 h hA hm hL hacc
  have V := fun w (hb : Below W.heap.size W w) => rowsValid_any p q (h.below hb h.lt) (hL.below hb hL.1)
  have HF := Lib.hid (fun (e : Ending) (w' : World) (he : e = .returned (.tuple #[.agg #[.int .i64 (zeroI).p0, .int .i64 (zeroI).q0, .slice none 0 0, .int .i64 (zeroI).p1, .int .i64 (zeroI).q1, .slice none 0 0, .int .i64 (zeroI).p2, .int .i64 (zeroI).q2, .slice none 0 0, .map none], .int .i64 (accE A p q rs)])) (hb : Below W.heap.size W w') => (show AccPost A p q rs v0 v1 v2 W e w' from by unfold AccPost; rw [if_neg hacc]; exact ⟨he, hb⟩))
  have HO := Own.start W
  simp only [zeroI] at HF
  cases hok : okStmt p q rs
  · have he : accE A p q rs = 2 := by simp [accE, hok]
    rw [hok] at V
    generalize AccPost A p q rs v0 v1 v2 W = Post at *
    rw [he] at HF
    obtain ⟨s, c, rfl, -⟩ := h.slice
    obtain ⟨s0, c0, rfl, -⟩ := h0.slice
    obtain ⟨s1, c1, rfl, -⟩ := h1.slice
    obtain ⟨s2, c2, rfl, -⟩ := h2.slice
    generalize rs.length = n at *
    generalize A.r0.length = n0 at *
    generalize A.r1.length = n1 at *
    generalize A.r2.length = n2 at *
    clear h h0 h1 h2 hA hL hok hacc he
    rcases hm with rfl | ⟨mb, rfl⟩
    all_goals
      go_enter Tryz.func130, Tryz.ntmps130
      go_wp2_with (first | ((with_reducible apply wpList_boxAgg _ HO rfl); exact rfl; exact rfl; exact rfl; clear HO; intro b2 w HO; (simp only [Act.put, zA, zB, zC])) | ((have _h : Own W _ (box _ _ :: box _ _ :: _) := HO); clear _h; ((with_reducible apply wpList_allocAgg _ HO rfl); exact rfl; infer_instance; exact rfl; clear HO; intro b4 w HO; (simp only [Act.put, zA, zB, zC]))) | (((with_reducible apply wpList_loadAll HO); exact rfl; exact rfl; (repeat (with_reducible (first | exact At.head _ | apply At.tail))); infer_instance; exact rfl; exact rfl; (simp only [Act.put, zA, zB, zC]))) | ((with_reducible apply wpList_storeAll HO); exact rfl; exact rfl; exact rfl; (repeat (with_reducible (exact At.head _))); infer_instance; exact rfl; exact rfl; exact rfl; exact rfl; clear HO; intro w HO; (simp only [Act.put])) | (go_at_call 159; go_must ((with_reducible refine (V _ HO.grown).mono ?_); rintro e w ⟨rfl, hb⟩; replace HO := HO.call hb; clear hb)))
      refine bodyPost_ret (results_box HO rfl rfl (by (repeat (with_reducible (exact At.head _)))) inferInstance rfl rfl) rfl ?_
      exact HF.out _ _ rfl HO.grown
  · have hle : q ≤ A.seq p := by
      by_cases hle : q ≤ A.seq p
      · exact hle
      · exact absurd (by simp [accE, hok, hle]) hacc
    have he : accE A p q rs = 93 := by simp [accE, hok, hle]
    obtain ⟨_, _, p0, p2, _, _⟩ := okStmt_ok hok
    have hp : p = 0 ∨ p = 1 ∨ p = 2 := by omega
    rw [hok] at V
    rcases hp with rfl | rfl | rfl
    · have hle' : decide (q ≤ A.q0) = true := by simpa [InS.seq] using hle
      generalize AccPost A 0 q rs v0 v1 v2 W = Post at *
      rw [he] at HF
      obtain ⟨s, c, rfl, -⟩ := h.slice
      obtain ⟨s0, c0, rfl, -⟩ := h0.slice
      obtain ⟨s1, c1, rfl, -⟩ := h1.slice
      obtain ⟨s2, c2, rfl, -⟩ := h2.slice
      generalize rs.length = n at *
      generalize A.r0.length = n0 at *
      generalize A.r1.length = n1 at *
      generalize A.r2.length = n2 at *
      generalize A.q0 = q0 at *
      generalize A.q1 = q1 at *
      generalize A.q2 = q2 at *
      clear h h0 h1 h2 hA hL hok hacc he hle
      rcases hm with rfl | ⟨mb, rfl⟩
      all_goals
        go_enter Tryz.func130, Tryz.ntmps130
        go_wp2_with (first | ((with_reducible apply wpList_boxAgg _ HO rfl); exact rfl; exact rfl; exact rfl; clear HO; intro b2 w HO; (simp only [Act.put, zA, zB, zC])) | ((have _h : Own W _ (box _ _ :: box _ _ :: _) := HO); clear _h; ((with_reducible apply wpList_allocAgg _ HO rfl); exact rfl; infer_instance; exact rfl; clear HO; intro b4 w HO; (simp only [Act.put, zA, zB, zC]))) | (((with_reducible apply wpList_loadAll HO); exact rfl; exact rfl; (repeat (with_reducible (first | exact At.head _ | apply At.tail))); infer_instance; exact rfl; exact rfl; (simp only [Act.put, zA, zB, zC]))) | (go_at_call 159; go_must ((with_reducible refine (V _ HO.grown).mono ?_); rintro e w ⟨rfl, hb⟩; replace HO := HO.call hb; clear hb)))
        refine region_own HO (by kernel_rfl) (by kernel_rfl) ?_
        clear HO
        intro F HF
        repeat (first | (((with_reducible apply wpQuiet_loadOne HF); exact rfl; exact rfl; (repeat (with_reducible (first | exact At.head _ | apply At.tail))); exact rfl; infer_instance; exact rfl; (simp only [Act.put, zA, zB, zC]))) | go_big_quiet_step (fail))
        refine wpQuiet_nil ?_
        intro x
        have HO := HF.own x
        clear HF
        generalize F x = w at *
        clear x F
        go_wp2_with (((with_reducible apply wpList_storeAll HO); exact rfl; exact rfl; exact rfl; (repeat (with_reducible (exact At.head _))); infer_instance; exact rfl; exact rfl; exact rfl; exact rfl; clear HO; intro w HO; (simp only [Act.put])))
        refine bodyPost_ret (results_box HO rfl rfl (by (repeat (with_reducible (exact At.head _)))) inferInstance rfl rfl) rfl ?_
        exact HF.out _ _ rfl HO.grown
    · have hle' : decide (q ≤ A.q1) = true := by simpa [InS.seq] using hle
      generalize AccPost A 1 q rs v0 v1 v2 W = Post at *
      rw [he] at HF
      obtain ⟨s, c, rfl, -⟩ := h.slice
      obtain ⟨s0, c0, rfl, -⟩ := h0.slice
      obtain ⟨s1, c1, rfl, -⟩ := h1.slice
      obtain ⟨s2, c2, rfl, -⟩ := h2.slice
      generalize rs.length = n at *
      generalize A.r0.length = n0 at *
      generalize A.r1.length = n1 at *
      generalize A.r2.length = n2 at *
      generalize A.q0 = q0 at *
      generalize A.q1 = q1 at *
      generalize A.q2 = q2 at *
      clear h h0 h1 h2 hA hL hok hacc he hle
      rcases hm with rfl | ⟨mb, rfl⟩
      all_goals
        go_enter Tryz.func130, Tryz.ntmps130
        go_wp2_with (first | ((with_reducible apply wpList_boxAgg _ HO rfl); exact rfl; exact rfl; exact rfl; clear HO; intro b2 w HO; (simp only [Act.put, zA, zB, zC])) | ((have _h : Own W _ (box _ _ :: box _ _ :: _) := HO); clear _h; ((with_reducible apply wpList_allocAgg _ HO rfl); exact rfl; infer_instance; exact rfl; clear HO; intro b4 w HO; (simp only [Act.put, zA, zB, zC]))) | (((with_reducible apply wpList_loadAll HO); exact rfl; exact rfl; (repeat (with_reducible (first | exact At.head _ | apply At.tail))); infer_instance; exact rfl; exact rfl; (simp only [Act.put, zA, zB, zC]))) | (go_at_call 159; go_must ((with_reducible refine (V _ HO.grown).mono ?_); rintro e w ⟨rfl, hb⟩; replace HO := HO.call hb; clear hb)))
        refine region_own HO (by kernel_rfl) (by kernel_rfl) ?_
        clear HO
        intro F HF
        repeat (first | (((with_reducible apply wpQuiet_loadOne HF); exact rfl; exact rfl; (repeat (with_reducible (first | exact At.head _ | apply At.tail))); exact rfl; infer_instance; exact rfl; (simp only [Act.put, zA, zB, zC]))) | go_big_quiet_step (fail))
        refine wpQuiet_nil ?_
        intro x
        have HO := HF.own x
        clear HF
        generalize F x = w at *
        clear x F
        go_wp2_with (((with_reducible apply wpList_storeAll HO); exact rfl; exact rfl; exact rfl; (repeat (with_reducible (exact At.head _))); infer_instance; exact rfl; exact rfl; exact rfl; exact rfl; clear HO; intro w HO; (simp only [Act.put])))
        refine bodyPost_ret (results_box HO rfl rfl (by (repeat (with_reducible (exact At.head _)))) inferInstance rfl rfl) rfl ?_
        exact HF.out _ _ rfl HO.grown
    · have hle' : decide (q ≤ A.q2) = true := by simpa [InS.seq] using hle
      generalize AccPost A 2 q rs v0 v1 v2 W = Post at *
      rw [he] at HF
      obtain ⟨s, c, rfl, -⟩ := h.slice
      obtain ⟨s0, c0, rfl, -⟩ := h0.slice
      obtain ⟨s1, c1, rfl, -⟩ := h1.slice
      obtain ⟨s2, c2, rfl, -⟩ := h2.slice
      generalize rs.length = n at *
      generalize A.r0.length = n0 at *
      generalize A.r1.length = n1 at *
      generalize A.r2.length = n2 at *
      generalize A.q0 = q0 at *
      generalize A.q1 = q1 at *
      generalize A.q2 = q2 at *
      clear h h0 h1 h2 hA hL hok hacc he hle
      rcases hm with rfl | ⟨mb, rfl⟩
      all_goals
        go_enter Tryz.func130, Tryz.ntmps130
        go_wp2_with (first | ((with_reducible apply wpList_boxAgg _ HO rfl); exact rfl; exact rfl; exact rfl; clear HO; intro b2 w HO; (simp only [Act.put, zA, zB, zC])) | ((have _h : Own W _ (box _ _ :: box _ _ :: _) := HO); clear _h; ((with_reducible apply wpList_allocAgg _ HO rfl); exact rfl; infer_instance; exact rfl; clear HO; intro b4 w HO; (simp only [Act.put, zA, zB, zC]))) | (((with_reducible apply wpList_loadAll HO); exact rfl; exact rfl; (repeat (with_reducible (first | exact At.head _ | apply At.tail))); infer_instance; exact rfl; exact rfl; (simp only [Act.put, zA, zB, zC]))) | (go_at_call 159; go_must ((with_reducible refine (V _ HO.grown).mono ?_); rintro e w ⟨rfl, hb⟩; replace HO := HO.call hb; clear hb)))
        refine region_own HO (by kernel_rfl) (by kernel_rfl) ?_
        clear HO
        intro F HF
        repeat (first | (((with_reducible apply wpQuiet_loadOne HF); exact rfl; exact rfl; (repeat (with_reducible (first | exact At.head _ | apply At.tail))); exact rfl; infer_instance; exact rfl; (simp only [Act.put, zA, zB, zC]))) | go_big_quiet_step (fail))
        refine wpQuiet_nil ?_
        intro x
        have HO := HF.own x
        clear HF
        generalize F x = w at *
        clear x F
        go_wp2_with (((with_reducible apply wpList_storeAll HO); exact rfl; exact rfl; exact rfl; (repeat (with_reducible (exact At.head _))); infer_instance; exact rfl; exact rfl; exact rfl; exact rfl; clear HO; intro w HO; (simp only [Act.put])))
        refine bodyPost_ret (results_box HO rfl rfl (by (repeat (with_reducible (exact At.head _)))) inferInstance rfl rfl) rfl ?_
        exact HF.out _ _ rfl HO.grown

/-- What the document's hands back. -/
def RefAccPost (A : InS) (p q : Int) (rs : List RowS) (v0 v1 v2 v : Value) (w : World) (e : Ending) (w' : World) : Prop :=
  Below w.heap.size w w' ∧ e = if accE A p q rs = 0 then .returned (.tuple #[.agg #[.int .i64 ((A.put p q rs)).p0, .int .i64 ((A.put p q rs)).q0, (if p = 0 then v else v0), .int .i64 ((A.put p q rs)).p1, .int .i64 ((A.put p q rs)).q1, (if p = 1 then v else v1), .int .i64 ((A.put p q rs)).p2, .int .i64 ((A.put p q rs)).q2, (if p = 2 then v else v2)], .int .i64 0])
    else .returned (.tuple #[.agg #[.int .i64 (zeroI).p0, .int .i64 (zeroI).q0, .slice none 0 0, .int .i64 (zeroI).p1, .int .i64 (zeroI).q1, .slice none 0 0, .int .i64 (zeroI).p2, .int .i64 (zeroI).q2, .slice none 0 0], .int .i64 (accE A p q rs)])

set_option maxHeartbeats 8000000 in
set_option maxRecDepth 100000 in
theorem refAccept_any {W : World} {v0 v1 v2 v : Value} (A : InS) (p q : Int) (rs : List RowS) (h0 : IsRows W v0 A.r0) (h1 : IsRows W v1 A.r1) (h2 : IsRows W v2 A.r2) (h : IsRows W v rs) :
    Calls Tryz.prog 89 #[.agg #[.int .i64 (A).p0, .int .i64 (A).q0, v0, .int .i64 (A).p1, .int .i64 (A).q1, v1, .int .i64 (A).p2, .int .i64 (A).q2, v2], .agg #[.int .i64 p, .int .i64 q, v]] W (RefAccPost A p q rs v0 v1 v2 v W) := by
  have V := fun w (hb : Below W.heap.size W w) => refValid_any p q (h.below hb h.lt)
  have HF := Lib.hid (fun (e : Ending) (w' : World) (he : e = (if accE A p q rs = 0 then .returned (.tuple #[.agg #[.int .i64 ((A.put p q rs)).p0, .int .i64 ((A.put p q rs)).q0, (if p = 0 then v else v0), .int .i64 ((A.put p q rs)).p1, .int .i64 ((A.put p q rs)).q1, (if p = 1 then v else v1), .int .i64 ((A.put p q rs)).p2, .int .i64 ((A.put p q rs)).q2, (if p = 2 then v else v2)], .int .i64 0])
    else .returned (.tuple #[.agg #[.int .i64 (zeroI).p0, .int .i64 (zeroI).q0, .slice none 0 0, .int .i64 (zeroI).p1, .int .i64 (zeroI).q1, .slice none 0 0, .int .i64 (zeroI).p2, .int .i64 (zeroI).q2, .slice none 0 0], .int .i64 (accE A p q rs)]))) (hb : Below W.heap.size W w') => (show RefAccPost A p q rs v0 v1 v2 v W e w' from ⟨hb, he⟩))
  generalize RefAccPost A p q rs v0 v1 v2 v W = Post at *
  have HO := Own.start W
  cases hok : okStmt p q rs
  · have he : accE A p q rs = 2 := by simp [accE, hok]
    rw [hok] at V
    rw [he, if_neg (by decide)] at HF
    simp only [zeroI] at HF
    obtain ⟨s, c, rfl, -⟩ := h.slice
    obtain ⟨s0, c0, rfl, -⟩ := h0.slice
    obtain ⟨s1, c1, rfl, -⟩ := h1.slice
    obtain ⟨s2, c2, rfl, -⟩ := h2.slice
    generalize rs.length = n at *
    generalize A.r0.length = n0 at *
    generalize A.r1.length = n1 at *
    generalize A.r2.length = n2 at *
    clear h h0 h1 h2 hok he
    go_enter Tryz.func89, Tryz.ntmps89
    go_wp2_with (first | ((with_reducible apply wpList_boxAgg _ HO rfl); exact rfl; exact rfl; exact rfl; clear HO; intro b2 w HO; (simp only [Act.put, zA, zB, zC])) | ((have _h : Own W _ (box _ _ :: box _ _ :: _) := HO); clear _h; ((with_reducible apply wpList_allocAgg _ HO rfl); exact rfl; infer_instance; exact rfl; clear HO; intro b4 w HO; (simp only [Act.put, zA, zB, zC]))) | (((with_reducible apply wpList_loadAll HO); exact rfl; exact rfl; (repeat (with_reducible (first | exact At.head _ | apply At.tail))); infer_instance; exact rfl; exact rfl; (simp only [Act.put, zA, zB, zC]))) | ((with_reducible apply wpList_storeAll HO); exact rfl; exact rfl; exact rfl; (repeat (with_reducible (exact At.head _))); infer_instance; exact rfl; exact rfl; exact rfl; exact rfl; clear HO; intro w HO; (simp only [Act.put])) | (go_at_call 136; go_must ((with_reducible refine (V _ HO.grown).mono ?_); rintro e w ⟨rfl, hb⟩; replace HO := HO.call hb; clear hb)))
    refine bodyPost_ret (results_box HO rfl rfl (by (repeat (with_reducible (exact At.head _)))) inferInstance rfl rfl) rfl ?_
    exact HF.out _ _ rfl HO.grown
  · obtain ⟨_, _, p0, p2, _, _⟩ := okStmt_ok hok
    have hp : p = 0 ∨ p = 1 ∨ p = 2 := by omega
    rw [hok] at V
    obtain ⟨s, c, rfl, -⟩ := h.slice
    obtain ⟨s0, c0, rfl, -⟩ := h0.slice
    obtain ⟨s1, c1, rfl, -⟩ := h1.slice
    obtain ⟨s2, c2, rfl, -⟩ := h2.slice
    clear h h0 h1 h2 p0 p2
    rcases hp with rfl | rfl | rfl
    · by_cases hle : q ≤ A.q0
      · have he : accE A 0 q rs = 93 := by simp [accE, hok, InS.seq, hle]
        rw [he, if_neg (by decide)] at HF
        have hle' : decide (q ≤ A.q0) = true := by simpa using hle
        simp only [zeroI] at HF
        clear hok he hle
        go_enter Tryz.func89, Tryz.ntmps89
        go_wp2_with (first | ((with_reducible apply wpList_boxAgg _ HO rfl); exact rfl; exact rfl; exact rfl; clear HO; intro b2 w HO; (simp only [Act.put, zA, zB, zC])) | ((have _h : Own W _ (box _ _ :: box _ _ :: _) := HO); clear _h; ((with_reducible apply wpList_allocAgg _ HO rfl); exact rfl; infer_instance; exact rfl; clear HO; intro b4 w HO; (simp only [Act.put, zA, zB, zC]))) | (((with_reducible apply wpList_loadAll HO); exact rfl; exact rfl; (repeat (with_reducible (first | exact At.head _ | apply At.tail))); infer_instance; exact rfl; exact rfl; (simp only [Act.put, zA, zB, zC]))) | (go_at_call 136; go_must ((with_reducible refine (V _ HO.grown).mono ?_); rintro e w ⟨rfl, hb⟩; replace HO := HO.call hb; clear hb)))
        refine region_own HO (by kernel_rfl) (by kernel_rfl) ?_
        clear HO
        intro F HF
        repeat (first | (((with_reducible apply wpQuiet_loadOne HF); exact rfl; exact rfl; (repeat (with_reducible (first | exact At.head _ | apply At.tail))); exact rfl; infer_instance; exact rfl; (simp only [Act.put, zA, zB, zC]))) | go_big_quiet_step (fail))
        refine wpQuiet_nil ?_
        intro x
        have HO := HF.own x
        clear HF
        generalize F x = w at *
        clear x F
        go_wp2_with (((with_reducible apply wpList_storeAll HO); exact rfl; exact rfl; exact rfl; (repeat (with_reducible (exact At.head _))); infer_instance; exact rfl; exact rfl; exact rfl; exact rfl; clear HO; intro w HO; (simp only [Act.put])))
        refine bodyPost_ret (results_box HO rfl rfl (by (repeat (with_reducible (exact At.head _)))) inferInstance rfl rfl) rfl ?_
        exact HF.out _ _ rfl HO.grown
      · have he : accE A 0 q rs = 0 := by simp [accE, hok, InS.seq, hle]
        rw [if_pos he] at HF
        have hle' : decide (q ≤ A.q0) = false := by simpa using hle
        clear hok he hle
        go_enter Tryz.func89, Tryz.ntmps89
        go_wp2_with (first | ((with_reducible apply wpList_boxAgg _ HO rfl); exact rfl; exact rfl; exact rfl; clear HO; intro b2 w HO; (simp only [Act.put, zA, zB, zC])) | ((have _h : Own W _ (box _ _ :: box _ _ :: _) := HO); clear _h; ((with_reducible apply wpList_allocAgg _ HO rfl); exact rfl; infer_instance; exact rfl; clear HO; intro b4 w HO; (simp only [Act.put, zA, zB, zC]))) | (((with_reducible apply wpList_loadAll HO); exact rfl; exact rfl; (repeat (with_reducible (first | exact At.head _ | apply At.tail))); infer_instance; exact rfl; exact rfl; (simp only [Act.put, zA, zB, zC]))) | (go_at_call 136; go_must ((with_reducible refine (V _ HO.grown).mono ?_); rintro e w ⟨rfl, hb⟩; replace HO := HO.call hb; clear hb)))
        refine region_own HO (by kernel_rfl) (by kernel_rfl) ?_
        clear HO
        intro F HF
        repeat (first | (((with_reducible apply wpQuiet_loadOne HF); exact rfl; exact rfl; (repeat (with_reducible (first | exact At.head _ | apply At.tail))); exact rfl; infer_instance; exact rfl; (simp only [Act.put, zA, zB, zC]))) | go_big_quiet_step (fail))
        refine wpQuiet_nil ?_
        intro x
        have HO := HF.own x
        clear HF
        generalize F x = w at *
        clear x F
        go_wp2_with (first | (first | ((with_reducible apply wpList_loadAll HO); exact rfl; exact rfl; (repeat (with_reducible (first | exact At.head _ | apply At.tail))); infer_instance; exact rfl; exact rfl; (simp only [Act.put, zA, zB, zC])) | ((with_reducible apply wpList_loadOne HO); exact rfl; exact rfl; (repeat (with_reducible (first | exact At.head _ | apply At.tail))); exact rfl; infer_instance; exact rfl; (simp only [Act.put, zA, zB, zC]))) | ((with_reducible apply wpList_storeAll HO); exact rfl; exact rfl; exact rfl; (repeat (with_reducible (first | exact At.head _ | apply At.tail))); infer_instance; exact rfl; exact rfl; exact rfl; exact rfl; clear HO; intro w HO; (simp only [Act.put])) | ((with_reducible apply wpList_storePart HO); exact rfl; exact rfl; ((simp [Act.eval]; rfl)); exact rfl; (repeat (with_reducible (first | exact At.head _ | apply At.tail))); infer_instance; exact rfl; exact (by simp); (simp only [putL, List.drop_succ_cons, List.drop_zero, List.take_zero, List.length_cons, List.length_nil, List.cons_append, List.nil_append, Nat.reduceAdd]; rfl); exact rfl; exact rfl; clear HO; intro w HO; (simp only [Act.put])))
        refine bodyPost_ret (results_box HO rfl rfl (by (repeat (with_reducible (exact At.head _)))) inferInstance rfl rfl) rfl ?_
        exact HF.out _ _ rfl HO.grown
    · by_cases hle : q ≤ A.q1
      · have he : accE A 1 q rs = 93 := by simp [accE, hok, InS.seq, hle]
        rw [he, if_neg (by decide)] at HF
        have hle' : decide (q ≤ A.q1) = true := by simpa using hle
        simp only [zeroI] at HF
        clear hok he hle
        go_enter Tryz.func89, Tryz.ntmps89
        go_wp2_with (first | ((with_reducible apply wpList_boxAgg _ HO rfl); exact rfl; exact rfl; exact rfl; clear HO; intro b2 w HO; (simp only [Act.put, zA, zB, zC])) | ((have _h : Own W _ (box _ _ :: box _ _ :: _) := HO); clear _h; ((with_reducible apply wpList_allocAgg _ HO rfl); exact rfl; infer_instance; exact rfl; clear HO; intro b4 w HO; (simp only [Act.put, zA, zB, zC]))) | (((with_reducible apply wpList_loadAll HO); exact rfl; exact rfl; (repeat (with_reducible (first | exact At.head _ | apply At.tail))); infer_instance; exact rfl; exact rfl; (simp only [Act.put, zA, zB, zC]))) | (go_at_call 136; go_must ((with_reducible refine (V _ HO.grown).mono ?_); rintro e w ⟨rfl, hb⟩; replace HO := HO.call hb; clear hb)))
        refine region_own HO (by kernel_rfl) (by kernel_rfl) ?_
        clear HO
        intro F HF
        repeat (first | (((with_reducible apply wpQuiet_loadOne HF); exact rfl; exact rfl; (repeat (with_reducible (first | exact At.head _ | apply At.tail))); exact rfl; infer_instance; exact rfl; (simp only [Act.put, zA, zB, zC]))) | go_big_quiet_step (fail))
        refine wpQuiet_nil ?_
        intro x
        have HO := HF.own x
        clear HF
        generalize F x = w at *
        clear x F
        go_wp2_with (((with_reducible apply wpList_storeAll HO); exact rfl; exact rfl; exact rfl; (repeat (with_reducible (exact At.head _))); infer_instance; exact rfl; exact rfl; exact rfl; exact rfl; clear HO; intro w HO; (simp only [Act.put])))
        refine bodyPost_ret (results_box HO rfl rfl (by (repeat (with_reducible (exact At.head _)))) inferInstance rfl rfl) rfl ?_
        exact HF.out _ _ rfl HO.grown
      · have he : accE A 1 q rs = 0 := by simp [accE, hok, InS.seq, hle]
        rw [if_pos he] at HF
        have hle' : decide (q ≤ A.q1) = false := by simpa using hle
        clear hok he hle
        go_enter Tryz.func89, Tryz.ntmps89
        go_wp2_with (first | ((with_reducible apply wpList_boxAgg _ HO rfl); exact rfl; exact rfl; exact rfl; clear HO; intro b2 w HO; (simp only [Act.put, zA, zB, zC])) | ((have _h : Own W _ (box _ _ :: box _ _ :: _) := HO); clear _h; ((with_reducible apply wpList_allocAgg _ HO rfl); exact rfl; infer_instance; exact rfl; clear HO; intro b4 w HO; (simp only [Act.put, zA, zB, zC]))) | (((with_reducible apply wpList_loadAll HO); exact rfl; exact rfl; (repeat (with_reducible (first | exact At.head _ | apply At.tail))); infer_instance; exact rfl; exact rfl; (simp only [Act.put, zA, zB, zC]))) | (go_at_call 136; go_must ((with_reducible refine (V _ HO.grown).mono ?_); rintro e w ⟨rfl, hb⟩; replace HO := HO.call hb; clear hb)))
        refine region_own HO (by kernel_rfl) (by kernel_rfl) ?_
        clear HO
        intro F HF
        repeat (first | (((with_reducible apply wpQuiet_loadOne HF); exact rfl; exact rfl; (repeat (with_reducible (first | exact At.head _ | apply At.tail))); exact rfl; infer_instance; exact rfl; (simp only [Act.put, zA, zB, zC]))) | go_big_quiet_step (fail))
        refine wpQuiet_nil ?_
        intro x
        have HO := HF.own x
        clear HF
        generalize F x = w at *
        clear x F
        go_wp2_with (first | (first | ((with_reducible apply wpList_loadAll HO); exact rfl; exact rfl; (repeat (with_reducible (first | exact At.head _ | apply At.tail))); infer_instance; exact rfl; exact rfl; (simp only [Act.put, zA, zB, zC])) | ((with_reducible apply wpList_loadOne HO); exact rfl; exact rfl; (repeat (with_reducible (first | exact At.head _ | apply At.tail))); exact rfl; infer_instance; exact rfl; (simp only [Act.put, zA, zB, zC]))) | ((with_reducible apply wpList_storeAll HO); exact rfl; exact rfl; exact rfl; (repeat (with_reducible (exact At.head _))); infer_instance; exact rfl; exact rfl; exact rfl; exact rfl; clear HO; intro w HO; (simp only [Act.put])) | ((with_reducible apply wpList_storePart HO); exact rfl; exact rfl; ((simp [Act.eval]; rfl)); exact rfl; (repeat (with_reducible (first | exact At.head _ | apply At.tail))); infer_instance; exact rfl; exact (by simp); (simp only [putL, List.drop_succ_cons, List.drop_zero, List.take_succ_cons, List.take_zero, List.length_cons, List.length_nil, List.cons_append, List.nil_append, Nat.reduceAdd]; rfl); exact rfl; exact rfl; clear HO; intro w HO; (simp only [Act.put])))
        refine bodyPost_ret (results_box HO rfl rfl (by (repeat (with_reducible (exact At.head _)))) inferInstance rfl rfl) rfl ?_
        exact HF.out _ _ rfl HO.grown
    · by_cases hle : q ≤ A.q2
      · have he : accE A 2 q rs = 93 := by simp [accE, hok, InS.seq, hle]
        rw [he, if_neg (by decide)] at HF
        have hle' : decide (q ≤ A.q2) = true := by simpa using hle
        simp only [zeroI] at HF
        clear hok he hle
        go_enter Tryz.func89, Tryz.ntmps89
        go_wp2_with (first | ((with_reducible apply wpList_boxAgg _ HO rfl); exact rfl; exact rfl; exact rfl; clear HO; intro b2 w HO; (simp only [Act.put, zA, zB, zC])) | ((have _h : Own W _ (box _ _ :: box _ _ :: _) := HO); clear _h; ((with_reducible apply wpList_allocAgg _ HO rfl); exact rfl; infer_instance; exact rfl; clear HO; intro b4 w HO; (simp only [Act.put, zA, zB, zC]))) | (((with_reducible apply wpList_loadAll HO); exact rfl; exact rfl; (repeat (with_reducible (first | exact At.head _ | apply At.tail))); infer_instance; exact rfl; exact rfl; (simp only [Act.put, zA, zB, zC]))) | (go_at_call 136; go_must ((with_reducible refine (V _ HO.grown).mono ?_); rintro e w ⟨rfl, hb⟩; replace HO := HO.call hb; clear hb)))
        refine region_own HO (by kernel_rfl) (by kernel_rfl) ?_
        clear HO
        intro F HF
        repeat (first | (((with_reducible apply wpQuiet_loadOne HF); exact rfl; exact rfl; (repeat (with_reducible (first | exact At.head _ | apply At.tail))); exact rfl; infer_instance; exact rfl; (simp only [Act.put, zA, zB, zC]))) | go_big_quiet_step (fail))
        refine wpQuiet_nil ?_
        intro x
        have HO := HF.own x
        clear HF
        generalize F x = w at *
        clear x F
        go_wp2_with (((with_reducible apply wpList_storeAll HO); exact rfl; exact rfl; exact rfl; (repeat (with_reducible (exact At.head _))); infer_instance; exact rfl; exact rfl; exact rfl; exact rfl; clear HO; intro w HO; (simp only [Act.put])))
        refine bodyPost_ret (results_box HO rfl rfl (by (repeat (with_reducible (exact At.head _)))) inferInstance rfl rfl) rfl ?_
        exact HF.out _ _ rfl HO.grown
      · have he : accE A 2 q rs = 0 := by simp [accE, hok, InS.seq, hle]
        rw [if_pos he] at HF
        have hle' : decide (q ≤ A.q2) = false := by simpa using hle
        clear hok he hle
        go_enter Tryz.func89, Tryz.ntmps89
        go_wp2_with (first | ((with_reducible apply wpList_boxAgg _ HO rfl); exact rfl; exact rfl; exact rfl; clear HO; intro b2 w HO; (simp only [Act.put, zA, zB, zC])) | ((have _h : Own W _ (box _ _ :: box _ _ :: _) := HO); clear _h; ((with_reducible apply wpList_allocAgg _ HO rfl); exact rfl; infer_instance; exact rfl; clear HO; intro b4 w HO; (simp only [Act.put, zA, zB, zC]))) | (((with_reducible apply wpList_loadAll HO); exact rfl; exact rfl; (repeat (with_reducible (first | exact At.head _ | apply At.tail))); infer_instance; exact rfl; exact rfl; (simp only [Act.put, zA, zB, zC]))) | (go_at_call 136; go_must ((with_reducible refine (V _ HO.grown).mono ?_); rintro e w ⟨rfl, hb⟩; replace HO := HO.call hb; clear hb)))
        refine region_own HO (by kernel_rfl) (by kernel_rfl) ?_
        clear HO
        intro F HF
        repeat (first | (((with_reducible apply wpQuiet_loadOne HF); exact rfl; exact rfl; (repeat (with_reducible (first | exact At.head _ | apply At.tail))); exact rfl; infer_instance; exact rfl; (simp only [Act.put, zA, zB, zC]))) | go_big_quiet_step (fail))
        refine wpQuiet_nil ?_
        intro x
        have HO := HF.own x
        clear HF
        generalize F x = w at *
        clear x F
        go_wp2_with (first | (first | ((with_reducible apply wpList_loadAll HO); exact rfl; exact rfl; (repeat (with_reducible (first | exact At.head _ | apply At.tail))); infer_instance; exact rfl; exact rfl; (simp only [Act.put, zA, zB, zC])) | ((with_reducible apply wpList_loadOne HO); exact rfl; exact rfl; (repeat (with_reducible (first | exact At.head _ | apply At.tail))); exact rfl; infer_instance; exact rfl; (simp only [Act.put, zA, zB, zC]))) | ((with_reducible apply wpList_storeAll HO); exact rfl; exact rfl; exact rfl; (repeat (with_reducible (exact At.head _))); infer_instance; exact rfl; exact rfl; exact rfl; exact rfl; clear HO; intro w HO; (simp only [Act.put])) | ((with_reducible apply wpList_storePart HO); exact rfl; exact rfl; ((simp [Act.eval]; rfl)); exact rfl; (repeat (with_reducible (first | exact At.head _ | apply At.tail))); infer_instance; exact rfl; exact (by simp); (simp only [putL, List.drop_succ_cons, List.drop_zero, List.take_succ_cons, List.take_zero, List.length_cons, List.length_nil, List.cons_append, List.nil_append, List.append_nil, Nat.reduceAdd]; rfl); exact rfl; exact rfl; clear HO; intro w HO; (simp only [Act.put])))
        refine bodyPost_ret (results_box HO rfl rfl (by (repeat (with_reducible (exact At.head _)))) inferInstance rfl rfl) rfl ?_
        exact HF.out _ _ rfl HO.grown
end Go.Proofs.YtibabfedpdoofaaGreatDoor
namespace Go.Own
end Go.Own
namespace Go.Proofs.YtibabfedpdoofaaGreatDoor
open Go.RowKit Go.Own Go.Maps

end Go.Proofs.YtibabfedpdoofaaGreatDoor
namespace Go.Proofs.YtibabfedpdoofaaGreatDoor
open Go.RowKit Go.Own Go.Maps

/-- An intake's map, as a piece of memory. -/
def mapM (m : Value) (g : Lit → Option Value) : Ent := ⟨match m with
  | .map (some b) => [b]
  | _ => [], fun w => MapIs m g w⟩
theorem mapM_ok (m : Value) (g : Lit → Option Value) : (mapM m g).Ok := fun w w' h hF => by
  rcases hF with hF | ⟨b, n, rfl, hF⟩
  · exact .inl hF
  · exact .inr ⟨b, n, rfl, mapE_ok _ _ _ _ _ w w' h hF⟩
theorem Own.nilIsl {W w : World} {L : List Ent} (h : Own W w L) : Own W w (isl 5 (.slice none 0 0) (([] : List RowS).map rowC) :: L) := by
  refine h.more (Below.refl _ _) (fun w w' _ _ => .none _ _ (fun _ => rfl)) (.none _ _ (fun _ => rfl)) (fun b hb => ?_) (fun b hb => ?_) <;> cases hb
theorem Own.nilMap {W w : World} {L : List Ent} (h : Own W w L) : Own W w (mapM (.map none) (allF zeroI) :: L) := by
  refine h.more (Below.refl _ _) (mapM_ok _ _) (.inl ⟨rfl, fun l => rfl⟩) (fun b hb => ?_) (fun b hb => ?_) <;> cases hb
theorem Own.rowIsl {W w : World} {L L' : List Ent} {t : Nat} {v : Value} {rs : List RowS} (h : Own W w L) (hat : At (row t 5 v (rs.map rowC)) (isl 5 v (rs.map rowC)) L L') : Own W w L' := h.read hat (rowC_len rs)
theorem Own.mapIsM {W w : World} {L L' : List Ent} {b n : Nat} {g : Lit → Option Value} (h : Own W w L) (hat : At (mapE Tryz.prog 29 b n g) (mapM (.map (some b)) g) L L') : Own W w L' :=
  h.as hat (mapM_ok _ _) (fun hF => .inr ⟨b, n, rfl, hF⟩) (fun _ hb => hb)
end Go.Proofs.YtibabfedpdoofaaGreatDoor
namespace Go.Proofs.YtibabfedpdoofaaGreatDoor
open Go.RowKit Go.Own Go.Maps

def hasL (L : List (OrdS × D6)) (ref : List UInt8) : Bool := L.any (fun x => decide (x.1.ref = ref))
set_option maxHeartbeats 8000000 in
set_option maxRecDepth 100000 in
theorem coHas_any {w : World} {a : CoA} {S : CoS} {i : InA} {A : InS} (h : CoAt w a S i A) (ref : List UInt8) : Calls Tryz.prog 126 #[.pointer (some ⟨a.c, 0, none⟩), .string ⟨ref.toArray⟩] w fun e w' => e = .returned (.bool (hasL S.L ref)) ∧ Below w.heap.size w w' := by
  have HO := Own.start w
  obtain ⟨p, c, hv, hmx⟩ := h.row.slice
  rw [List.length_map] at hv hmx
  have HR := Lib.hid h.row
  have h0 := old_cell h.box 0 rfl
  have hlt := old_lt h.box
  have hmx' : (S.L.length : Int) ≤ 9223372036854775807 := by unfold maxLen at hmx; omega
  rw [hv] at h0
  generalize ha : a.v = av at *
  subst hv
  clear h ha
  generalize hg : hasL S.L ref = g0
  replace hg := Lib.hid hg
  go_enter Tryz.func126, Tryz.ntmps126
  go_wp2_with (((with_reducible apply wpList_loadOld1 HO); exact rfl; exact rfl; exact hlt; exact h0; infer_instance; exact rfl; (simp only [Act.put, zA, zB, zC])))
  go_loopw [12] (fun i wr => ∃ j : Nat, j ≤ S.L.length ∧ i = .int .i64 (j : Int) ∧ hasL (S.L.take j) ref = false ∧ Own w wr []) (fun i _ => S.L.length - (intOf i).toNat)
  case atStart => exact ⟨0, by omega, rfl, rfl, HO⟩
  case round =>
    clear HO
    obtain ⟨j, hj, rfl, hnf, HO⟩ := hrel
    by_cases hjl : j < S.L.length
    · have hjI : (j : Int) < (S.L.length : Int) := by omega
      obtain ⟨b, rfl, hst⟩ := oldAt HR.out rfl hjl
      have HX := Lib.hid (show S.L[j].1.ref ≠ ref → hasL (S.L.take (j + 1)) ref = false from fun hx => by
        unfold hasL at hnf ⊢
        rw [List.take_succ_eq_append_getElem hjl, List.any_append, hnf]
        simpa using hx)
      have HY := Lib.hid (show S.L[j].1.ref = ref → hasL S.L ref = true from fun hx => by
        unfold hasL
        rw [List.any_eq_true]
        exact ⟨S.L[j], List.getElem_mem hjl, by simpa using hx⟩)
      clear hnf
      generalize S.L[j] = y at *
      obtain ⟨o, s⟩ := y
      unfold sagaL at hst
      replace hst := Lib.hid hst
      by_cases hz : o.ref = ref
      · obtain rfl : g0 = true := hg.out.symm.trans (HY.out hz)
        have hD : (o.ref == ref) = true := by simpa using hz
        clear HX HY hz
        go_wp2_with (first | (((with_reducible apply wpList_loadOne HO); exact rfl; exact rfl; (repeat (with_reducible (exact At.head _))); exact rfl; infer_instance; exact rfl; (simp only [Act.put, zA, zB, zC]))) | ((with_reducible apply wpList_loadAt HO); exact rfl; exact rfl; exact (fun w' h1 => hst.out w' h1.grown); infer_instance; exact rfl; exact rfl; (simp only [Act.put, zA, zB, zC])) | (((with_reducible apply wpList_allocAgg _ HO rfl); exact rfl; infer_instance; exact rfl; clear HO; intro b1 w HO; (simp only [Act.put, zA, zB, zC]))) | ((with_reducible apply wpList_storeAll HO); exact rfl; exact rfl; exact rfl; (repeat (with_reducible (exact At.head _))); infer_instance; exact rfl; exact rfl; exact rfl; exact rfl; clear HO; intro w HO; (simp only [Act.put])))
        go_ret
        exact ⟨rfl, HO.grown⟩
      · have HZ := Lib.hid (HX.out hz)
        have hD : (o.ref == ref) = false := by simpa using hz
        clear HX HY hz
        go_wp2_with (first | (((with_reducible apply wpList_loadOne HO); exact rfl; exact rfl; (repeat (with_reducible (exact At.head _))); exact rfl; infer_instance; exact rfl; (simp only [Act.put, zA, zB, zC]))) | ((with_reducible apply wpList_loadAt HO); exact rfl; exact rfl; exact (fun w' h1 => hst.out w' h1.grown); infer_instance; exact rfl; exact rfl; (simp only [Act.put, zA, zB, zC])) | (((with_reducible apply wpList_allocAgg _ HO rfl); exact rfl; infer_instance; exact rfl; clear HO; intro b1 w HO; (simp only [Act.put, zA, zB, zC]))) | ((with_reducible apply wpList_storeAll HO); exact rfl; exact rfl; exact rfl; (repeat (with_reducible (exact At.head _))); infer_instance; exact rfl; exact rfl; exact rfl; exact rfl; clear HO; intro w HO; (simp only [Act.put])))
        replace HO := HO.tail
        go_roundw
        case rel => exact ⟨j + 1, by omega, by go_num, HZ.out, HO⟩
        case measure => simp [intOf] <;> omega
    · obtain rfl : j = S.L.length := by omega
      rw [List.take_length] at hnf
      obtain rfl : g0 = false := hg.out.symm.trans hnf
      clear hnf
      go_wp2_with fail
      go_ret
      exact ⟨rfl, HO.grown⟩

/-- A core's own memory; the intake's. -/
def coPs (a : CoA) (S : CoS) (i : InA) (A : InS) : List Ent := [box a.c (.cells (coC a.v a.k A i.v0 i.v1 i.v2 i.m).toArray 143), row 72 12 a.v (S.L.map sagaL), bkE a.k a.u a.pm a.bm S.P]
noncomputable def inPs (i : InA) (A : InS) : List Ent := [isl 5 i.v0 (A.r0.map rowC), isl 5 i.v1 (A.r1.map rowC), isl 5 i.v2 (A.r2.map rowC), mapM i.m (allF A)]
def inNil : InA := ⟨.slice none 0 0, .slice none 0 0, .slice none 0 0, .map none⟩
theorem sagaL_len (L : List (OrdS × D6)) : ∀ x ∈ L.map sagaL, x.length = 12 := fun x hx => by
  obtain ⟨y, _, rfl⟩ := List.mem_map.1 hx
  rfl
/-- What is known of a core that is one's own. -/
theorem Own.coAt {W w : World} {L : List Ent} {a : CoA} {S : CoS} {i : InA} {A : InS} (h : Own W w L) (h1 : box a.c (.cells (coC a.v a.k A i.v0 i.v1 i.v2 i.m).toArray 143) ∈ L) (h2 : row 72 12 a.v (S.L.map sagaL) ∈ L) (h3 : bkE a.k a.u a.pm a.bm S.P ∈ L) : CoAt w a S i A := by
  obtain ⟨h4, _⟩ := h.has _ h3
  exact ⟨h.has _ h1, isL_of_owns (sagaL_len _) (h.has _ h2), ⟨h4 _ (.head _), h4 _ (.tail _ (.head _)), h4 _ (.tail _ (.tail _ (.head _))), h4 _ (.tail _ (.tail _ (.tail _ (.head _))))⟩⟩

set_option maxHeartbeats 4000000 in
set_option maxRecDepth 100000 in
theorem coNew_any (W : World) : Calls Tryz.prog 25 #[] W fun e w' => ∃ a : CoA, e = .returned (.pointer (some ⟨a.c, 0, none⟩)) ∧ Own W w' (coPs a ⟨[], []⟩ inNil zeroI ++ inPs inNil zeroI) := by
  have HO := Own.start W
  go_enter Tryz.func25, Tryz.ntmps25
  go_wp2_with (first | (go_at_call 78; go_must ((with_reducible refine (bkNew_any _).mono ?_); rintro e w ⟨b, pm, bm, rfl, HO1⟩; replace HO := HO.lift HO1; clear HO1; simp only [List.cons_append, List.nil_append] at HO)) | (((with_reducible apply wpList_boxAgg _ HO rfl); exact rfl; exact rfl; exact rfl; clear HO; intro b1 w HO; (simp only [Act.put, zA, zB, zC]))))
  go_ret
  refine ⟨⟨b1, .slice none 0 0, b, .slice none 0 0, pm, bm⟩, rfl, ?_⟩
  have h1 := Own.nil (Own.nilIsl (Own.nilIsl (Own.nilIsl (Own.nilMap HO)))) 72 12
  exact h1.perm ((List.perm_append_comm (l₁ := [_, _, _, _, _]) (l₂ := [_, _])).trans ((List.Perm.swap _ _ _).cons _))

end Go.Proofs.YtibabfedpdoofaaGreatDoor
namespace Go.Proofs.YtibabfedpdoofaaGreatDoor
open Go.RowKit Go.Own

def stateOf (s : D6) : Int := if backOf s = true then (if (waitsOf s).2 = true then 1 else if s.x = true then 4 else 3) else (if (waitsOf s).2 = true then 0 else 2)
def onOf (s : D6) : D6 :=
  if backOf s = true then
    if (s.c = 2 ∨ s.c = 4) ∧ s.f = 0 then { s with f := 1 } else if (s.b = 2 ∨ s.b = 4) ∧ s.e = 0 then { s with e := 1 } else if (s.a = 2 ∨ s.a = 4) ∧ s.d = 0 then { s with d := 1 } else s
  else if s.a = 0 then { s with a := 1 } else if s.b = 0 then { s with b := 1 } else if s.c = 0 then { s with c := 1 } else s

theorem onOf_fwd {s : D6} (h : backOf s = false) : onOf s = if s.a = 0 then { s with a := 1 } else if s.b = 0 then { s with b := 1 } else if s.c = 0 then { s with c := 1 } else s := by
  unfold onOf; rw [h]; rfl
theorem onOf_bwd {s : D6} (h : backOf s = true) : onOf s = if (s.c = 2 ∨ s.c = 4) ∧ s.f = 0 then { s with f := 1 } else if (s.b = 2 ∨ s.b = 4) ∧ s.e = 0 then { s with e := 1 } else if (s.a = 2 ∨ s.a = 4) ∧ s.d = 0 then { s with d := 1 } else s := by
  unfold onOf; rw [h]; rfl

set_option maxHeartbeats 2000000 in
set_option maxRecDepth 100000 in
theorem state_any (o : OrdS) (s : D6) (w : World) : Calls Tryz.prog 38 #[sagaV o s] w fun e w' => e = .returned (.int .i64 (stateOf s)) ∧ Below w.heap.size w w' := by
  have W := fun w => waits_any o s w
  have B := fun w => back_any o s w
  obtain ⟨a, b, c, d, e, f, x⟩ := s
  simp only [sagaV] at W B ⊢
  have HQ := Lib.hid (show stateOf ⟨a, b, c, d, e, f, x⟩ = _ from rfl)
  conv at HQ => arg 1; rhs; unfold stateOf
  simp only at HQ
  generalize waitsOf ⟨a, b, c, d, e, f, x⟩ = p at *
  generalize backOf ⟨a, b, c, d, e, f, x⟩ = k at *
  obtain ⟨n, v⟩ := p
  simp only at W HQ
  cases v <;> cases k <;> cases x
  all_goals
    go_enter Tryz.func38, Tryz.ntmps38
    go_wp2_with (first | (go_at_call 98; go_must ((with_reducible refine (W _).mono ?_); rintro e w1 ⟨rfl, hb⟩; obtain ⟨hc, hf⟩ := bcell hb; have hz := hb.size; (try simp at hz); (try have hzT := Nat.lt_of_succ_le hz); have hzA : w.heap.size < w1.heap.size := (by omega); have hzA2 := Nat.le_of_lt hzA)) | (go_at_call 99; go_must ((with_reducible refine (B _).mono ?_); rintro e w1 ⟨rfl, hb⟩; obtain ⟨hc, hf⟩ := bcell hb; have hz := hb.size; (try simp at hz); (try have hzT := Nat.lt_of_succ_le hz); have hzA : w.heap.size < w1.heap.size := (by omega); have hzA2 := Nat.le_of_lt hzA)))
    go_ret
    exact ⟨by rw [HQ.out]; rfl, (by with_reducible (repeat (first | exact Below.refl _ _ | refine Below.alloc ?_ (by first | (simp; done) | omega | (simp; omega)) _ | refine Below.trans ?_ (Below.mono (by assumption) (by first | (simp; done) | omega | (simp; omega))))))⟩

set_option maxHeartbeats 2000000 in
set_option maxRecDepth 100000 in
theorem refState_any (o : OrdS) (s : D6) (w : World) : Calls Tryz.prog 70 #[sagaV o s] w fun e w' => e = .returned (.int .i64 (stateOf s)) ∧ Below w.heap.size w w' := by
  have W := fun w => refWaits_any o s w
  have B := fun w => refBack_any o s w
  obtain ⟨a, b, c, d, e, f, x⟩ := s
  simp only [sagaV] at W B ⊢
  have HQ := Lib.hid (show stateOf ⟨a, b, c, d, e, f, x⟩ = _ from rfl)
  conv at HQ => arg 1; rhs; unfold stateOf
  simp only at HQ
  generalize waitsOf ⟨a, b, c, d, e, f, x⟩ = p at *
  generalize backOf ⟨a, b, c, d, e, f, x⟩ = k at *
  obtain ⟨n, v⟩ := p
  simp only at W HQ
  cases v <;> cases k <;> cases x
  all_goals
    go_enter Tryz.func70, Tryz.ntmps70
    go_wp2_with (first | (go_at_call 118; go_must ((with_reducible refine (W _).mono ?_); rintro e w1 ⟨rfl, hb⟩; obtain ⟨hc, hf⟩ := bcell hb; have hz := hb.size; (try simp at hz); (try have hzT := Nat.lt_of_succ_le hz); have hzA : w.heap.size < w1.heap.size := (by omega); have hzA2 := Nat.le_of_lt hzA)) | (go_at_call 124; go_must ((with_reducible refine (B _).mono ?_); rintro e w1 ⟨rfl, hb⟩; obtain ⟨hc, hf⟩ := bcell hb; have hz := hb.size; (try simp at hz); (try have hzT := Nat.lt_of_succ_le hz); have hzA : w.heap.size < w1.heap.size := (by omega); have hzA2 := Nat.le_of_lt hzA)))
    go_ret
    exact ⟨by rw [HQ.out]; rfl, (by with_reducible (repeat (first | exact Below.refl _ _ | refine Below.alloc ?_ (by first | (simp; done) | omega | (simp; omega)) _ | refine Below.trans ?_ (Below.mono (by assumption) (by first | (simp; done) | omega | (simp; omega))))))⟩

end Go.Proofs.YtibabfedpdoofaaGreatDoor
namespace Go.Own
open Go.RowKit

theorem after2 {w w1 : World} {A C : Array Value} {T U : TypeId} (hb : Below ((w.alloc (.cells A T)).alloc (.cells C U)).heap.size ((w.alloc (.cells A T)).alloc (.cells C U)) w1) :
    (∀ i v, A[i]? = some v → w1.cell? ⟨w.heap.size, i, none⟩ = some v) ∧ (∀ i v, C[i]? = some v → w1.cell? ⟨w.heap.size + 1, i, none⟩ = some v) ∧
      (∀ i, w1.frozen? ⟨w.heap.size, i, none⟩ = false) ∧ (∀ i, w1.frozen? ⟨w.heap.size + 1, i, none⟩ = false) := by
  have h1 : w1.heap[w.heap.size]? = some (.cells A T (0, 0)) := by
    rw [hb.block _ (by simp; omega), Below.heap_alloc _ _ _ (by simp)]
    exact heap_alloc_new w _
  have h2 : w1.heap[w.heap.size + 1]? = some (.cells C U (0, 0)) := by
    rw [hb.block _ (by simp)]
    have := heap_alloc_new (w.alloc (.cells A T)) (.cells C U)
    simpa using this
  refine ⟨fun i v hi => ?_, fun i v hi => ?_, fun i => ?_, fun i => ?_⟩
  · rw [cell_of_row w1 w.heap.size i A T (0, 0) h1]; exact hi
  · rw [cell_of_row w1 (w.heap.size + 1) i C U (0, 0) h2]; exact hi
  · simp [World.frozen?, h1]
  · simp [World.frozen?, h2]
end Go.Own

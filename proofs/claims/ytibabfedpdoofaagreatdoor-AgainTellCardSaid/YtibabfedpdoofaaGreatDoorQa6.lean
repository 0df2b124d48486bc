/-
  Accepting a statement, by walking the program's text; conditions: the rows lie in memory, the table of parties as laid, the intake's rows may be. (Printed by wip/mkintacc.py.)
-/
import Derived.Test.YtibabfedpdoofaaGreatDoorQa1
import Derived.Test.YtibabfedpdoofaaGreatDoorQa4
namespace Go.Proofs.YtibabfedpdoofaaGreatDoor
open Go.RowKit Go.Own Go.Maps

/-- What the call hands back: the new intake, its map and its copy of the rows in memory of the caller's own. -/
def AccPost (A : InS) (p q : Int) (rs : List RowS) (v0 v1 v2 : Value) (w : World) (e : Ending) (w' : World) : Prop :=
  if accE A p q rs = 0 then ∃ (b n : Nat) (u : Value), Own w w' [mapE Tryz.prog 29 b n (allF (A.put p q rs)), row 160 5 u (rs.map rowC)] ∧
    (∃ p' c', u = .slice p' rs.length c') ∧ e = .returned (.tuple #[.agg #[.int .i64 ((A.put p q rs)).p0, .int .i64 ((A.put p q rs)).q0, (if p = 0 then u else v0), .int .i64 ((A.put p q rs)).p1, .int .i64 ((A.put p q rs)).q1, (if p = 1 then u else v1), .int .i64 ((A.put p q rs)).p2, .int .i64 ((A.put p q rs)).q2, (if p = 2 then u else v2), .map (some b)], .int .i64 0])
  else e = .returned (.tuple #[.agg #[.int .i64 (zeroI).p0, .int .i64 (zeroI).q0, .slice none 0 0, .int .i64 (zeroI).p1, .int .i64 (zeroI).q1, .slice none 0 0, .int .i64 (zeroI).p2, .int .i64 (zeroI).q2, .slice none 0 0, .map none], .int .i64 (accE A p q rs)]) ∧ Below w.heap.size w w'
theorem rows_snoc (pre rs : List RowS) {j : Nat} (hj : j < rs.length) : putRows (fun _ => none) (pre ++ rs.take (j + 1)) = updF (putRows (fun _ => none) (pre ++ rs.take j)) (keyLit rs[j].o rs[j].d) rs[j].v := by
  rw [List.take_succ_eq_append_getElem hj, ← List.append_assoc, putRows_snoc]

set_option maxHeartbeats 8000000 in
set_option maxRecDepth 100000 in
theorem accept0_any {W : World} {v0 v1 v2 v : Value} (A : InS) (m : Value) (q : Int) (rs : List RowS) (h0 : IsRows W v0 A.r0) (h1 : IsRows W v1 A.r1) (h2 : IsRows W v2 A.r2) (h : IsRows W v rs) (hA : InOk A) (hm : m = .map none ∨ ∃ b, m = .map (some b)) (hL : Laid W) (hacc : accE A 0 q rs = 0) :
    Calls Tryz.prog 130 #[.agg #[.int .i64 (A).p0, .int .i64 (A).q0, v0, .int .i64 (A).p1, .int .i64 (A).q1, v1, .int .i64 (A).p2, .int .i64 (A).q2, v2, m], .agg #[.int .i64 0, .int .i64 q, v]] W (AccPost A 0 q rs v0 v1 v2 W) := by
  obtain ⟨hok, hlt⟩ := accE_ok hacc
  have V := fun w (hb : Below W.heap.size W w) => rowsValid_any 0 q (h.below hb h.lt) (hL.below hb hL.1)
  rw [hok] at V
  obtain ⟨_, _, _, _, hrl, hck⟩ := okStmt_ok hok
  obtain ⟨p0, q0, r0, p1, q1, r1, p2, q2, r2⟩ := A
  obtain ⟨k0, k1, k2⟩ := hA
  simp only at h0 h1 h2 k0 k1 k2
  have HF := Lib.hid (fun (f : Lit → Option Value) (b n : Nat) (u : Value) (w' : World) (hO : Own W w' [mapE Tryz.prog 29 b n f, row 160 5 u (rs.map rowC)]) (hu : ∃ p' c', u = .slice p' rs.length c') (hf : f = putRows (fun _ => none) (rs ++ (r1 ++ r2))) =>
    (show AccPost ⟨p0, q0, r0, p1, q1, r1, p2, q2, r2⟩ 0 q rs v0 v1 v2 W (.returned (.tuple #[.agg #[.int .i64 0, .int .i64 q, u, .int .i64 p1, .int .i64 q1, v1, .int .i64 p2, .int .i64 q2, v2, .map (some b)], .int .i64 0])) w' from by
      unfold AccPost
      rw [if_pos hacc]
      subst hf
      exact ⟨b, n, u, hO, hu, rfl⟩))
  have hlt' : decide (q ≤ q0) = false := by
    have hlt2 : q0 < q := hlt
    simp; omega
  generalize hP : AccPost ⟨p0, q0, r0, p1, q1, r1, p2, q2, r2⟩ 0 q rs v0 v1 v2 W = Post at *
  have HU := Lib.hid (fun (w' : World) (L : List Ent) (hO : Own W w' L) => isL_of_isRows (h.below hO.grown h.lt))
  obtain ⟨s, c, rfl, -⟩ := h.slice
  obtain ⟨s0, c0, rfl, -⟩ := h0.slice
  obtain ⟨s1, c1, rfl, -⟩ := h1.slice
  obtain ⟨s2, c2, rfl, -⟩ := h2.slice
  have R1 := Lib.hid (fun j (hj : j < r1.length) => oldRow h1 rfl hj)
  have R2 := Lib.hid (fun j (hj : j < r2.length) => oldRow h2 rfl hj)
  have K0 := Lib.hid (fun j (hj : j < rs.length) => rows_keys hck hj)
  have K1 := Lib.hid (fun j (hj : j < r1.length) => rows_keys k1 hj)
  have K2 := Lib.hid (fun j (hj : j < r2.length) => rows_keys k2 hj)
  have n0 := rows_len k0
  have n1 := rows_len k1
  have n2 := rows_len k2
  have hmx : maxLen = 9223372036854775807 := rfl
  have HO := (Own.start W).nil 160 5
  clear h0 h1 h2 h k0 k1 k2 hck hok hlt hacc hL hP
  rcases hm with rfl | ⟨mb, rfl⟩
  all_goals
    go_enter Tryz.func130, Tryz.ntmps130
    go_wp2_with (first | ((with_reducible apply wpList_boxAgg _ HO rfl); exact rfl; exact rfl; exact rfl; clear HO; intro b2 w HO; (simp only [Act.put, zA, zB, zC])) | ((have _h : Own W _ (box _ _ :: box _ _ :: _) := HO); clear _h; ((with_reducible apply wpList_allocAgg _ HO rfl); exact rfl; infer_instance; exact rfl; clear HO; intro b4 w HO; (simp only [Act.put, zA, zB, zC]))) | (first | go_big_skip | ((with_reducible apply wpList_loadAll HO); exact rfl; exact rfl; (repeat (with_reducible (first | exact At.head _ | apply At.tail))); infer_instance; exact rfl; exact rfl; (simp only [Act.put, zA, zB, zC])) | ((with_reducible apply wpList_loadOne HO); exact rfl; exact rfl; (repeat (with_reducible (first | exact At.head _ | apply At.tail))); exact rfl; infer_instance; exact rfl; (simp only [Act.put, zA, zB, zC]))) | (go_at_call 159; go_must ((with_reducible refine (V _ HO.grown).mono ?_); rintro e w ⟨rfl, hb⟩; replace HO := HO.call hb; clear hb)))
    refine region_own HO (by kernel_rfl) (by kernel_rfl) ?_
    clear HO
    intro F HF
    repeat (first | (first | go_big_quiet_skip | ((with_reducible apply wpQuiet_loadAll HF); exact rfl; exact rfl; (repeat (with_reducible (first | exact At.head _ | apply At.tail))); infer_instance; exact rfl; exact rfl; (simp only [Act.put, zA, zB, zC])) | ((with_reducible apply wpQuiet_loadOne HF); exact rfl; exact rfl; (repeat (with_reducible (first | exact At.head _ | apply At.tail))); exact rfl; infer_instance; exact rfl; (simp only [Act.put, zA, zB, zC])) | ((with_reducible apply wpQuiet_loadPart HF); exact rfl; exact rfl; (repeat (with_reducible (first | exact At.head _ | apply At.tail))); infer_instance; exact (Nat.le_of_ble_eq_true rfl); (simp only [List.drop_succ_cons, List.drop_zero, List.take_succ_cons, List.take_zero]; rfl); exact rfl; (simp only [Act.put, zA, zB, zC]))) | go_big_quiet_step (fail))
    refine wpQuiet_nil ?_
    intro x
    have HO := HF.own x
    clear HF
    generalize F x = w at *
    clear x F
    go_wp2_with (first | (first | go_big_skip | ((with_reducible apply wpList_loadAll HO); exact rfl; exact rfl; (repeat (with_reducible (first | exact At.head _ | apply At.tail))); infer_instance; exact rfl; exact rfl; (simp only [Act.put, zA, zB, zC])) | ((with_reducible apply wpList_loadOne HO); exact rfl; exact rfl; (repeat (with_reducible (first | exact At.head _ | apply At.tail))); exact rfl; infer_instance; exact rfl; (simp only [Act.put, zA, zB, zC]))) | ((with_reducible apply wpList_storeAll HO); exact rfl; exact rfl; exact rfl; (repeat (with_reducible (first | exact At.head _ | apply At.tail))); infer_instance; exact rfl; exact rfl; exact rfl; exact rfl; clear HO; intro w HO; (simp only [Act.put])) | ((with_reducible apply wpList_storePart HO); exact rfl; exact rfl; (first | (simp [Act.eval]; rfl) | exact rfl); exact rfl; (repeat (with_reducible (first | exact At.head _ | apply At.tail))); infer_instance; exact rfl; exact (by simp); (simp only [putL, List.drop_succ_cons, List.drop_zero, List.take_succ_cons, List.take_zero, List.length_cons, List.length_nil, List.cons_append, List.nil_append, List.append_nil, Nat.reduceAdd]; rfl); exact rfl; exact rfl; clear HO; intro w HO; (simp only [Act.put])) | ((with_reducible apply wpList_storeOne HO); exact rfl; exact rfl; (first | (simp [Act.eval]; rfl) | exact rfl); exact rfl; (repeat (with_reducible (first | exact At.head _ | apply At.tail))); infer_instance; exact (by simp); (simp only [List.set_cons_succ, List.set_cons_zero]; rfl); exact rfl; clear HO; intro w HO; (simp only [Act.put])) | ((with_reducible apply wpList_loadPart HO); exact rfl; exact rfl; (repeat (with_reducible (first | exact At.head _ | apply At.tail))); infer_instance; exact (Nat.le_of_ble_eq_true rfl); (simp only [List.drop_zero, List.take_succ_cons, List.take_zero]; rfl); exact rfl; (simp only [Act.put, zA, zB, zC])) | ((with_reducible apply wpList_makeMap HO (kt := 29)); exact rfl; exact rfl; clear HO; intro b w HO; (simp only [Act.put, zA, zB, zC])) | ((with_reducible apply wpList_allocAgg _ HO rfl); exact rfl; infer_instance; exact rfl; clear HO; intro b6 w HO; (simp only [Act.put, zA, zB, zC])) | ((with_reducible apply wpList_appendAll HO); exact rfl; infer_instance; infer_instance; (first | (simp [Act.eval]; rfl) | exact rfl); exact rfl; exact (HU.out _ _ HO); exact rowC_len _; exact rowC_one _; intro _; (repeat (with_reducible (first | exact At.head _ | apply At.tail))); (simp; omega); decide; exact rfl; clear HO; intro v2 w HO hv2; clear hv2; (obtain ⟨⟨su, cu, rfl⟩, -⟩ := HO.rowForm (v := v2) (by (repeat (with_reducible (first | exact At.head _ | apply At.tail))))); simp only [List.nil_append, List.length_map] at HO ⊢; (simp only [Act.put, zA, zB, zC])))

    refine wp_loop_rounds 4 ?_
    rw [rounds_succ]
    go_wp2_with (first | ((with_reducible apply wpList_indexArr (i := 0)); exact rfl; exact rfl; exact rfl; exact Tryz.underlying138; exact (by decide); infer_instance; (simp only [Nat.zero_mul, List.drop_zero, List.take_succ_cons, List.take_zero]; rfl); exact rfl; (simp only [Act.put, zA, zB, zC])) | (first | go_big_skip | ((with_reducible apply wpList_loadAll HO); exact rfl; exact rfl; (repeat (with_reducible (first | exact At.head _ | apply At.tail))); infer_instance; exact rfl; exact rfl; (simp only [Act.put, zA, zB, zC])) | ((with_reducible apply wpList_loadOne HO); exact rfl; exact rfl; (repeat (with_reducible (first | exact At.head _ | apply At.tail))); exact rfl; infer_instance; exact rfl; (simp only [Act.put, zA, zB, zC]))) | ((with_reducible apply wpList_storeAll HO); exact rfl; exact rfl; exact rfl; (repeat (with_reducible (first | exact At.head _ | apply At.tail))); infer_instance; exact rfl; exact rfl; exact rfl; exact rfl; clear HO; intro w HO; (simp only [Act.put])) | ((with_reducible apply wpList_storePart HO); exact rfl; exact rfl; (first | (simp [Act.eval]; rfl) | exact rfl); exact rfl; (repeat (with_reducible (first | exact At.head _ | apply At.tail))); infer_instance; exact rfl; exact (by simp); (simp only [putL, List.drop_succ_cons, List.drop_zero, List.take_succ_cons, List.take_zero, List.length_cons, List.length_nil, List.cons_append, List.nil_append, List.append_nil, Nat.reduceAdd]; rfl); exact rfl; exact rfl; clear HO; intro w HO; (simp only [Act.put])) | ((with_reducible apply wpList_loadPart HO); exact rfl; exact rfl; (repeat (with_reducible (first | exact At.head _ | apply At.tail))); infer_instance; exact (Nat.le_of_ble_eq_true rfl); (simp only [List.drop_succ_cons, List.drop_zero, List.take_succ_cons, List.take_zero]; rfl); exact rfl; (simp only [Act.put, zA, zB, zC])) | (first | ((with_reducible apply wpList_boxAgg _ HO rfl); exact rfl; exact rfl; exact rfl; clear HO; intro b8 w HO; (simp only [Act.put, zA, zB, zC])) | ((with_reducible apply wpList_allocAgg _ HO rfl); exact rfl; infer_instance; exact rfl; clear HO; intro b8 w HO; (simp only [Act.put, zA, zB, zC]))))
    go_loopw [46] (fun i wr => ∃ j : Nat, j ≤ rs.length ∧ i = .int .i64 (j : Int) ∧ Own W wr [box b8 (.cells #[.int .i64 0, .int .i64 q, .slice su rs.length cu] 32), box b6 (.cells #[.int .i64 0, .int .i64 q, .slice su rs.length cu, .int .i64 p1, .int .i64 q1, .slice s1 r1.length c1, .int .i64 p2, .int .i64 q2, .slice s2 r2.length c2, .map (some b)] 141), mapE Tryz.prog 29 b (0 + j) (putRows (fun _ => none) (([] : List RowS) ++ rs.take j)), box b4 (.cells #[.int .i64 0, .int .i64 0, .slice none 0 0, .int .i64 0, .int .i64 0, .slice none 0 0, .int .i64 0, .int .i64 0, .slice none 0 0, .map none] 141), row 160 5 (.slice su rs.length cu) (rs.map rowC)]) (fun i _ => rs.length - (intOf i).toNat)
    case atStart => exact ⟨0, by omega, rfl, by simpa [putRows] using HO.sub (by exact .cons_cons _ (.cons_cons _ (.cons_cons _ (.cons_cons _ (.cons _ (.cons _ (.cons_cons _ (List.Sublist.refl _))))))))⟩
    case round =>
      clear HO
      obtain ⟨j, hj, rfl, HO⟩ := hrel
      by_cases hjl : j < rs.length
      · have hjI : (j : Int) < (rs.length : Int) := by omega
        obtain ⟨q9, c9, h9⟩ := (HO.rowForm (t := 160) (k := 5) (v := .slice su rs.length cu) (by (repeat (with_reducible (first | exact At.head _ | apply At.tail))))).2 (by rw [List.length_map]; omega)
        rw [List.length_map] at h9
        cases h9
        have HGJ := Lib.hid (show (rs.map rowC)[j]? = some (rowC rs[j]) by rw [List.getElem?_map, List.getElem?_eq_getElem hjl]; rfl)
        have hk := K0.out j hjl
        have HX := Lib.hid (rows_snoc ([] : List RowS) rs hjl)
        generalize rs[j] = r at *
        obtain ⟨ro, rd, rc, ra, rq⟩ := r
        replace hk := Lib.hid hk
        go_wp2_with (first | (first | go_big_skip | ((with_reducible apply wpList_loadAll HO); exact rfl; exact rfl; (repeat (with_reducible (first | exact At.head _ | apply At.tail))); infer_instance; exact rfl; exact rfl; (simp only [Act.put, zA, zB, zC])) | ((with_reducible apply wpList_loadOne HO); exact rfl; exact rfl; (repeat (with_reducible (first | exact At.head _ | apply At.tail))); exact rfl; infer_instance; exact rfl; (simp only [Act.put, zA, zB, zC]))) | ((with_reducible apply wpList_loadAt HO); exact rfl; exact rfl; exact (fun w' h1 => h1.rowAt (by (repeat (with_reducible (first | exact At.head _ | apply At.tail)))) (rowC_len rs) HGJ.out); infer_instance; exact rfl; exact rfl; (simp only [Act.put, zA, zB, zC])) | (first | ((with_reducible apply wpList_boxAgg _ HO rfl); exact rfl; exact rfl; exact rfl; clear HO; intro b10 w HO; (simp only [Act.put, zA, zB, zC])) | ((with_reducible apply wpList_allocAgg _ HO rfl); exact rfl; infer_instance; exact rfl; clear HO; intro b10 w HO; (simp only [Act.put, zA, zB, zC]))) | ((with_reducible apply wpList_storeAll HO); exact rfl; exact rfl; exact rfl; (repeat (with_reducible (first | exact At.head _ | apply At.tail))); infer_instance; exact rfl; exact rfl; exact rfl; exact rfl; clear HO; intro w HO; (simp only [Act.put])) | ((with_reducible apply wpList_loadPart HO); exact rfl; exact rfl; (repeat (with_reducible (first | exact At.head _ | apply At.tail))); infer_instance; exact (Nat.le_of_ble_eq_true rfl); (simp only [List.drop_zero]; rfl); exact rfl; (simp only [Act.put, zA, zB, zC])) | ((with_reducible apply wpList_mapPut HO (kt := 29) (et := 160)); exact rfl; exact rfl; exact rfl; exact rfl; (repeat (with_reducible (first | exact At.head _ | apply At.tail))); exact keyKeyed; exact Tryz.underlying139; exact (by omega); exact keyOf_lit hk.out.1 hk.out.2; exact rfl; clear HO; intro w HO; (simp only [Act.put])))
        go_roundw
        case rel => exact ⟨j + 1, by omega, by go_num, by rw [HX.out]; exact HO.sub (by exact .cons _ (.cons_cons _ (.cons_cons _ (.cons_cons _ (.cons_cons _ (.cons_cons _ (List.Sublist.refl _)))))))⟩
        case measure => simp [intOf] <;> omega
      · obtain rfl : j = rs.length := by omega
        rw [List.take_length] at HO
        rw [List.nil_append, Nat.zero_add] at HO
        have HO0 := HO
        go_wp2_with fail
        rw [rounds_succ]
        clear HO0
        go_wp2_with (first | ((with_reducible apply wpList_indexArr (i := 1)); exact rfl; exact rfl; exact rfl; exact Tryz.underlying138; exact (by decide); infer_instance; (simp only [Nat.one_mul, List.drop_succ_cons, List.drop_zero, List.take_succ_cons, List.take_zero]; rfl); exact rfl; (simp only [Act.put, zA, zB, zC])) | (first | go_big_skip | ((with_reducible apply wpList_loadAll HO); exact rfl; exact rfl; (repeat (with_reducible (first | exact At.head _ | apply At.tail))); infer_instance; exact rfl; exact rfl; (simp only [Act.put, zA, zB, zC])) | ((with_reducible apply wpList_loadOne HO); exact rfl; exact rfl; (repeat (with_reducible (first | exact At.head _ | apply At.tail))); exact rfl; infer_instance; exact rfl; (simp only [Act.put, zA, zB, zC]))) | ((with_reducible apply wpList_storeAll HO); exact rfl; exact rfl; exact rfl; (repeat (with_reducible (first | exact At.head _ | apply At.tail))); infer_instance; exact rfl; exact rfl; exact rfl; exact rfl; clear HO; intro w HO; (simp only [Act.put])) | ((with_reducible apply wpList_storePart HO); exact rfl; exact rfl; (first | (simp [Act.eval]; rfl) | exact rfl); exact rfl; (repeat (with_reducible (first | exact At.head _ | apply At.tail))); infer_instance; exact rfl; exact (by simp); (simp only [putL, List.drop_succ_cons, List.drop_zero, List.take_succ_cons, List.take_zero, List.length_cons, List.length_nil, List.cons_append, List.nil_append, List.append_nil, Nat.reduceAdd]; rfl); exact rfl; exact rfl; clear HO; intro w HO; (simp only [Act.put])) | ((with_reducible apply wpList_loadPart HO); exact rfl; exact rfl; (repeat (with_reducible (first | exact At.head _ | apply At.tail))); infer_instance; exact (Nat.le_of_ble_eq_true rfl); (simp only [List.drop_succ_cons, List.drop_zero, List.take_succ_cons, List.take_zero]; rfl); exact rfl; (simp only [Act.put, zA, zB, zC])) | (first | ((with_reducible apply wpList_boxAgg _ HO rfl); exact rfl; exact rfl; exact rfl; clear HO; intro b8 w HO; (simp only [Act.put, zA, zB, zC])) | ((with_reducible apply wpList_allocAgg _ HO rfl); exact rfl; infer_instance; exact rfl; clear HO; intro b8 w HO; (simp only [Act.put, zA, zB, zC]))))
        go_loopw [46] (fun i wr => ∃ j : Nat, j ≤ r1.length ∧ i = .int .i64 (j : Int) ∧ Own W wr [box b8 (.cells #[.int .i64 p1, .int .i64 q1, .slice s1 r1.length c1] 32), box b6 (.cells #[.int .i64 0, .int .i64 q, .slice su rs.length cu, .int .i64 p1, .int .i64 q1, .slice s1 r1.length c1, .int .i64 p2, .int .i64 q2, .slice s2 r2.length c2, .map (some b)] 141), mapE Tryz.prog 29 b (rs.length + j) (putRows (fun _ => none) (rs ++ r1.take j)), box b4 (.cells #[.int .i64 0, .int .i64 0, .slice none 0 0, .int .i64 0, .int .i64 0, .slice none 0 0, .int .i64 0, .int .i64 0, .slice none 0 0, .map none] 141), row 160 5 (.slice su rs.length cu) (rs.map rowC)]) (fun i _ => r1.length - (intOf i).toNat)
        case atStart => exact ⟨0, by omega, rfl, by simpa using HO.sub (by exact .cons_cons _ (.cons _ (.cons_cons _ (.cons_cons _ (.cons_cons _ (.cons_cons _ (List.Sublist.refl _)))))))⟩
        case round =>
          clear HO
          obtain ⟨j, hj, rfl, HO⟩ := hrel
          by_cases hjl : j < r1.length
          · have hjI : (j : Int) < (r1.length : Int) := by omega
            obtain ⟨a, rfl, hcell⟩ := R1.out j hjl
            replace hcell := Lib.hid hcell
            have hk := K1.out j hjl
            have HX := Lib.hid (rows_snoc rs r1 hjl)
            generalize r1[j] = r at *
            obtain ⟨ro, rd, rc, ra, rq⟩ := r
            replace hk := Lib.hid hk
            go_wp2_with (first | (first | go_big_skip | ((with_reducible apply wpList_loadAll HO); exact rfl; exact rfl; (repeat (with_reducible (first | exact At.head _ | apply At.tail))); infer_instance; exact rfl; exact rfl; (simp only [Act.put, zA, zB, zC])) | ((with_reducible apply wpList_loadOne HO); exact rfl; exact rfl; (repeat (with_reducible (first | exact At.head _ | apply At.tail))); exact rfl; infer_instance; exact rfl; (simp only [Act.put, zA, zB, zC]))) | ((with_reducible apply wpList_loadAt HO); exact rfl; exact rfl; exact (fun w' h1 => hcell.out w' _ h1); infer_instance; exact rfl; exact rfl; (simp only [Act.put, zA, zB, zC])) | (first | ((with_reducible apply wpList_boxAgg _ HO rfl); exact rfl; exact rfl; exact rfl; clear HO; intro b10 w HO; (simp only [Act.put, zA, zB, zC])) | ((with_reducible apply wpList_allocAgg _ HO rfl); exact rfl; infer_instance; exact rfl; clear HO; intro b10 w HO; (simp only [Act.put, zA, zB, zC]))) | ((with_reducible apply wpList_storeAll HO); exact rfl; exact rfl; exact rfl; (repeat (with_reducible (first | exact At.head _ | apply At.tail))); infer_instance; exact rfl; exact rfl; exact rfl; exact rfl; clear HO; intro w HO; (simp only [Act.put])) | ((with_reducible apply wpList_loadPart HO); exact rfl; exact rfl; (repeat (with_reducible (first | exact At.head _ | apply At.tail))); infer_instance; exact (Nat.le_of_ble_eq_true rfl); (simp only [List.drop_zero]; rfl); exact rfl; (simp only [Act.put, zA, zB, zC])) | ((with_reducible apply wpList_mapPut HO (kt := 29) (et := 160)); exact rfl; exact rfl; exact rfl; exact rfl; (repeat (with_reducible (first | exact At.head _ | apply At.tail))); exact keyKeyed; exact Tryz.underlying139; exact (by omega); exact keyOf_lit hk.out.1 hk.out.2; exact rfl; clear HO; intro w HO; (simp only [Act.put])))
            go_roundw
            case rel => exact ⟨j + 1, by omega, by go_num, by rw [HX.out]; exact HO.sub (by exact .cons _ (.cons_cons _ (.cons_cons _ (.cons_cons _ (.cons_cons _ (.cons_cons _ (List.Sublist.refl _)))))))⟩
            case measure => simp [intOf] <;> omega
          · obtain rfl : j = r1.length := by omega
            rw [List.take_length] at HO
            have HO0 := HO
            go_wp2_with fail
            rw [rounds_succ]
            clear HO0
            go_wp2_with (first | ((with_reducible apply wpList_indexArr (i := 2)); exact rfl; exact rfl; exact rfl; exact Tryz.underlying138; exact (by decide); infer_instance; (simp only [Nat.reduceMul, List.drop_succ_cons, List.drop_zero, List.take_succ_cons, List.take_zero]; rfl); exact rfl; (simp only [Act.put, zA, zB, zC])) | (first | go_big_skip | ((with_reducible apply wpList_loadAll HO); exact rfl; exact rfl; (repeat (with_reducible (first | exact At.head _ | apply At.tail))); infer_instance; exact rfl; exact rfl; (simp only [Act.put, zA, zB, zC])) | ((with_reducible apply wpList_loadOne HO); exact rfl; exact rfl; (repeat (with_reducible (first | exact At.head _ | apply At.tail))); exact rfl; infer_instance; exact rfl; (simp only [Act.put, zA, zB, zC]))) | ((with_reducible apply wpList_storeAll HO); exact rfl; exact rfl; exact rfl; (repeat (with_reducible (first | exact At.head _ | apply At.tail))); infer_instance; exact rfl; exact rfl; exact rfl; exact rfl; clear HO; intro w HO; (simp only [Act.put])) | ((with_reducible apply wpList_storePart HO); exact rfl; exact rfl; (first | (simp [Act.eval]; rfl) | exact rfl); exact rfl; (repeat (with_reducible (first | exact At.head _ | apply At.tail))); infer_instance; exact rfl; exact (by simp); (simp only [putL, List.drop_succ_cons, List.drop_zero, List.take_succ_cons, List.take_zero, List.length_cons, List.length_nil, List.cons_append, List.nil_append, List.append_nil, Nat.reduceAdd]; rfl); exact rfl; exact rfl; clear HO; intro w HO; (simp only [Act.put])) | ((with_reducible apply wpList_loadPart HO); exact rfl; exact rfl; (repeat (with_reducible (first | exact At.head _ | apply At.tail))); infer_instance; exact (Nat.le_of_ble_eq_true rfl); (simp only [List.drop_succ_cons, List.drop_zero, List.take_succ_cons, List.take_zero]; rfl); exact rfl; (simp only [Act.put, zA, zB, zC])) | (first | ((with_reducible apply wpList_boxAgg _ HO rfl); exact rfl; exact rfl; exact rfl; clear HO; intro b8 w HO; (simp only [Act.put, zA, zB, zC])) | ((with_reducible apply wpList_allocAgg _ HO rfl); exact rfl; infer_instance; exact rfl; clear HO; intro b8 w HO; (simp only [Act.put, zA, zB, zC]))))
            go_loopw [46] (fun i wr => ∃ j : Nat, j ≤ r2.length ∧ i = .int .i64 (j : Int) ∧ Own W wr [box b8 (.cells #[.int .i64 p2, .int .i64 q2, .slice s2 r2.length c2] 32), box b6 (.cells #[.int .i64 0, .int .i64 q, .slice su rs.length cu, .int .i64 p1, .int .i64 q1, .slice s1 r1.length c1, .int .i64 p2, .int .i64 q2, .slice s2 r2.length c2, .map (some b)] 141), mapE Tryz.prog 29 b ((rs.length + r1.length) + j) (putRows (fun _ => none) ((rs ++ r1) ++ r2.take j)), box b4 (.cells #[.int .i64 0, .int .i64 0, .slice none 0 0, .int .i64 0, .int .i64 0, .slice none 0 0, .int .i64 0, .int .i64 0, .slice none 0 0, .map none] 141), row 160 5 (.slice su rs.length cu) (rs.map rowC)]) (fun i _ => r2.length - (intOf i).toNat)
            case atStart => exact ⟨0, by omega, rfl, by simpa using HO.sub (by exact .cons_cons _ (.cons _ (.cons_cons _ (.cons_cons _ (.cons_cons _ (.cons_cons _ (List.Sublist.refl _)))))))⟩
            case round =>
              clear HO
              obtain ⟨j, hj, rfl, HO⟩ := hrel
              by_cases hjl : j < r2.length
              · have hjI : (j : Int) < (r2.length : Int) := by omega
                obtain ⟨a, rfl, hcell⟩ := R2.out j hjl
                replace hcell := Lib.hid hcell
                have hk := K2.out j hjl
                have HX := Lib.hid (rows_snoc (rs ++ r1) r2 hjl)
                generalize r2[j] = r at *
                obtain ⟨ro, rd, rc, ra, rq⟩ := r
                replace hk := Lib.hid hk
                go_wp2_with (first | (first | go_big_skip | ((with_reducible apply wpList_loadAll HO); exact rfl; exact rfl; (repeat (with_reducible (first | exact At.head _ | apply At.tail))); infer_instance; exact rfl; exact rfl; (simp only [Act.put, zA, zB, zC])) | ((with_reducible apply wpList_loadOne HO); exact rfl; exact rfl; (repeat (with_reducible (first | exact At.head _ | apply At.tail))); exact rfl; infer_instance; exact rfl; (simp only [Act.put, zA, zB, zC]))) | ((with_reducible apply wpList_loadAt HO); exact rfl; exact rfl; exact (fun w' h1 => hcell.out w' _ h1); infer_instance; exact rfl; exact rfl; (simp only [Act.put, zA, zB, zC])) | (first | ((with_reducible apply wpList_boxAgg _ HO rfl); exact rfl; exact rfl; exact rfl; clear HO; intro b10 w HO; (simp only [Act.put, zA, zB, zC])) | ((with_reducible apply wpList_allocAgg _ HO rfl); exact rfl; infer_instance; exact rfl; clear HO; intro b10 w HO; (simp only [Act.put, zA, zB, zC]))) | ((with_reducible apply wpList_storeAll HO); exact rfl; exact rfl; exact rfl; (repeat (with_reducible (first | exact At.head _ | apply At.tail))); infer_instance; exact rfl; exact rfl; exact rfl; exact rfl; clear HO; intro w HO; (simp only [Act.put])) | ((with_reducible apply wpList_loadPart HO); exact rfl; exact rfl; (repeat (with_reducible (first | exact At.head _ | apply At.tail))); infer_instance; exact (Nat.le_of_ble_eq_true rfl); (simp only [List.drop_zero]; rfl); exact rfl; (simp only [Act.put, zA, zB, zC])) | ((with_reducible apply wpList_mapPut HO (kt := 29) (et := 160)); exact rfl; exact rfl; exact rfl; exact rfl; (repeat (with_reducible (first | exact At.head _ | apply At.tail))); exact keyKeyed; exact Tryz.underlying139; exact (by omega); exact keyOf_lit hk.out.1 hk.out.2; exact rfl; clear HO; intro w HO; (simp only [Act.put])))
                go_roundw
                case rel => exact ⟨j + 1, by omega, by go_num, by rw [HX.out]; exact HO.sub (by exact .cons _ (.cons_cons _ (.cons_cons _ (.cons_cons _ (.cons_cons _ (.cons_cons _ (List.Sublist.refl _)))))))⟩
                case measure => simp [intOf] <;> omega
              · obtain rfl : j = r2.length := by omega
                rw [List.take_length] at HO
                go_wp2_with fail
                rw [rounds_succ]
                go_wp2_with (first | (first | go_big_skip | ((with_reducible apply wpList_loadAll HO); exact rfl; exact rfl; (repeat (with_reducible (first | exact At.head _ | apply At.tail))); infer_instance; exact rfl; exact rfl; (simp only [Act.put, zA, zB, zC])) | ((with_reducible apply wpList_loadOne HO); exact rfl; exact rfl; (repeat (with_reducible (first | exact At.head _ | apply At.tail))); exact rfl; infer_instance; exact rfl; (simp only [Act.put, zA, zB, zC]))) | ((with_reducible apply wpList_storeAll HO); exact rfl; exact rfl; exact rfl; (repeat (with_reducible (first | exact At.head _ | apply At.tail))); infer_instance; exact rfl; exact rfl; exact rfl; exact rfl; clear HO; intro w HO; (simp only [Act.put])))
                refine bodyPost_ret (results_box HO rfl rfl (by (repeat (with_reducible (first | exact At.head _ | apply At.tail)))) inferInstance rfl rfl) rfl ?_
                exact HF.out _ _ _ _ _ (HO.sub (by exact .cons _ (.cons _ (.cons_cons _ (.cons _ (.cons_cons _ (List.Sublist.refl _))))))) ⟨_, _, rfl⟩ (by rw [List.append_assoc])

set_option maxHeartbeats 8000000 in
set_option maxRecDepth 100000 in
theorem accept1_any {W : World} {v0 v1 v2 v : Value} (A : InS) (m : Value) (q : Int) (rs : List RowS) (h0 : IsRows W v0 A.r0) (h1 : IsRows W v1 A.r1) (h2 : IsRows W v2 A.r2) (h : IsRows W v rs) (hA : InOk A) (hm : m = .map none ∨ ∃ b, m = .map (some b)) (hL : Laid W) (hacc : accE A 1 q rs = 0) :
    Calls Tryz.prog 130 #[.agg #[.int .i64 (A).p0, .int .i64 (A).q0, v0, .int .i64 (A).p1, .int .i64 (A).q1, v1, .int .i64 (A).p2, .int .i64 (A).q2, v2, m], .agg #[.int .i64 1, .int .i64 q, v]] W (AccPost A 1 q rs v0 v1 v2 W) := by
  obtain ⟨hok, hlt⟩ := accE_ok hacc
  have V := fun w (hb : Below W.heap.size W w) => rowsValid_any 1 q (h.below hb h.lt) (hL.below hb hL.1)
  rw [hok] at V
  obtain ⟨_, _, _, _, hrl, hck⟩ := okStmt_ok hok
  obtain ⟨p0, q0, r0, p1, q1, r1, p2, q2, r2⟩ := A
  obtain ⟨k0, k1, k2⟩ := hA
  simp only at h0 h1 h2 k0 k1 k2
  have HF := Lib.hid (fun (f : Lit → Option Value) (b n : Nat) (u : Value) (w' : World) (hO : Own W w' [mapE Tryz.prog 29 b n f, row 160 5 u (rs.map rowC)]) (hu : ∃ p' c', u = .slice p' rs.length c') (hf : f = putRows (fun _ => none) (r0 ++ (rs ++ r2))) =>
    (show AccPost ⟨p0, q0, r0, p1, q1, r1, p2, q2, r2⟩ 1 q rs v0 v1 v2 W (.returned (.tuple #[.agg #[.int .i64 p0, .int .i64 q0, v0, .int .i64 1, .int .i64 q, u, .int .i64 p2, .int .i64 q2, v2, .map (some b)], .int .i64 0])) w' from by
      unfold AccPost
      rw [if_pos hacc]
      subst hf
      exact ⟨b, n, u, hO, hu, rfl⟩))
  have hlt' : decide (q ≤ q1) = false := by
    have hlt2 : q1 < q := hlt
    simp; omega
  generalize hP : AccPost ⟨p0, q0, r0, p1, q1, r1, p2, q2, r2⟩ 1 q rs v0 v1 v2 W = Post at *
  have HU := Lib.hid (fun (w' : World) (L : List Ent) (hO : Own W w' L) => isL_of_isRows (h.below hO.grown h.lt))
  obtain ⟨s, c, rfl, -⟩ := h.slice
  obtain ⟨s0, c0, rfl, -⟩ := h0.slice
  obtain ⟨s1, c1, rfl, -⟩ := h1.slice
  obtain ⟨s2, c2, rfl, -⟩ := h2.slice
  have R0 := Lib.hid (fun j (hj : j < r0.length) => oldRow h0 rfl hj)
  have R2 := Lib.hid (fun j (hj : j < r2.length) => oldRow h2 rfl hj)
  have K0 := Lib.hid (fun j (hj : j < r0.length) => rows_keys k0 hj)
  have K1 := Lib.hid (fun j (hj : j < rs.length) => rows_keys hck hj)
  have K2 := Lib.hid (fun j (hj : j < r2.length) => rows_keys k2 hj)
  have n0 := rows_len k0
  have n1 := rows_len k1
  have n2 := rows_len k2
  have hmx : maxLen = 9223372036854775807 := rfl
  have HO := (Own.start W).nil 160 5
  clear h0 h1 h2 h k0 k1 k2 hck hok hlt hacc hL hP
  rcases hm with rfl | ⟨mb, rfl⟩
  all_goals
    go_enter Tryz.func130, Tryz.ntmps130
    go_wp2_with (first | ((with_reducible apply wpList_boxAgg _ HO rfl); exact rfl; exact rfl; exact rfl; clear HO; intro b2 w HO; (simp only [Act.put, zA, zB, zC])) | ((have _h : Own W _ (box _ _ :: box _ _ :: _) := HO); clear _h; ((with_reducible apply wpList_allocAgg _ HO rfl); exact rfl; infer_instance; exact rfl; clear HO; intro b4 w HO; (simp only [Act.put, zA, zB, zC]))) | (first | go_big_skip | ((with_reducible apply wpList_loadAll HO); exact rfl; exact rfl; (repeat (with_reducible (first | exact At.head _ | apply At.tail))); infer_instance; exact rfl; exact rfl; (simp only [Act.put, zA, zB, zC])) | ((with_reducible apply wpList_loadOne HO); exact rfl; exact rfl; (repeat (with_reducible (first | exact At.head _ | apply At.tail))); exact rfl; infer_instance; exact rfl; (simp only [Act.put, zA, zB, zC]))) | (go_at_call 159; go_must ((with_reducible refine (V _ HO.grown).mono ?_); rintro e w ⟨rfl, hb⟩; replace HO := HO.call hb; clear hb)))
    refine region_own HO (by kernel_rfl) (by kernel_rfl) ?_
    clear HO
    intro F HF
    repeat (first | (first | go_big_quiet_skip | ((with_reducible apply wpQuiet_loadAll HF); exact rfl; exact rfl; (repeat (with_reducible (first | exact At.head _ | apply At.tail))); infer_instance; exact rfl; exact rfl; (simp only [Act.put, zA, zB, zC])) | ((with_reducible apply wpQuiet_loadOne HF); exact rfl; exact rfl; (repeat (with_reducible (first | exact At.head _ | apply At.tail))); exact rfl; infer_instance; exact rfl; (simp only [Act.put, zA, zB, zC])) | ((with_reducible apply wpQuiet_loadPart HF); exact rfl; exact rfl; (repeat (with_reducible (first | exact At.head _ | apply At.tail))); infer_instance; exact (Nat.le_of_ble_eq_true rfl); (simp only [List.drop_succ_cons, List.drop_zero, List.take_succ_cons, List.take_zero]; rfl); exact rfl; (simp only [Act.put, zA, zB, zC]))) | go_big_quiet_step (fail))
    refine wpQuiet_nil ?_
    intro x
    have HO := HF.own x
    clear HF
    generalize F x = w at *
    clear x F
    go_wp2_with (first | (first | go_big_skip | ((with_reducible apply wpList_loadAll HO); exact rfl; exact rfl; (repeat (with_reducible (first | exact At.head _ | apply At.tail))); infer_instance; exact rfl; exact rfl; (simp only [Act.put, zA, zB, zC])) | ((with_reducible apply wpList_loadOne HO); exact rfl; exact rfl; (repeat (with_reducible (first | exact At.head _ | apply At.tail))); exact rfl; infer_instance; exact rfl; (simp only [Act.put, zA, zB, zC]))) | ((with_reducible apply wpList_storeAll HO); exact rfl; exact rfl; exact rfl; (repeat (with_reducible (first | exact At.head _ | apply At.tail))); infer_instance; exact rfl; exact rfl; exact rfl; exact rfl; clear HO; intro w HO; (simp only [Act.put])) | ((with_reducible apply wpList_storePart HO); exact rfl; exact rfl; (first | (simp [Act.eval]; rfl) | exact rfl); exact rfl; (repeat (with_reducible (first | exact At.head _ | apply At.tail))); infer_instance; exact rfl; exact (by simp); (simp only [putL, List.drop_succ_cons, List.drop_zero, List.take_succ_cons, List.take_zero, List.length_cons, List.length_nil, List.cons_append, List.nil_append, List.append_nil, Nat.reduceAdd]; rfl); exact rfl; exact rfl; clear HO; intro w HO; (simp only [Act.put])) | ((with_reducible apply wpList_storeOne HO); exact rfl; exact rfl; (first | (simp [Act.eval]; rfl) | exact rfl); exact rfl; (repeat (with_reducible (first | exact At.head _ | apply At.tail))); infer_instance; exact (by simp); (simp only [List.set_cons_succ, List.set_cons_zero]; rfl); exact rfl; clear HO; intro w HO; (simp only [Act.put])) | ((with_reducible apply wpList_loadPart HO); exact rfl; exact rfl; (repeat (with_reducible (first | exact At.head _ | apply At.tail))); infer_instance; exact (Nat.le_of_ble_eq_true rfl); (simp only [List.drop_zero, List.take_succ_cons, List.take_zero]; rfl); exact rfl; (simp only [Act.put, zA, zB, zC])) | ((with_reducible apply wpList_makeMap HO (kt := 29)); exact rfl; exact rfl; clear HO; intro b w HO; (simp only [Act.put, zA, zB, zC])) | ((with_reducible apply wpList_allocAgg _ HO rfl); exact rfl; infer_instance; exact rfl; clear HO; intro b6 w HO; (simp only [Act.put, zA, zB, zC])) | ((with_reducible apply wpList_appendAll HO); exact rfl; infer_instance; infer_instance; (first | (simp [Act.eval]; rfl) | exact rfl); exact rfl; exact (HU.out _ _ HO); exact rowC_len _; exact rowC_one _; intro _; (repeat (with_reducible (first | exact At.head _ | apply At.tail))); (simp; omega); decide; exact rfl; clear HO; intro v2 w HO hv2; clear hv2; (obtain ⟨⟨su, cu, rfl⟩, -⟩ := HO.rowForm (v := v2) (by (repeat (with_reducible (first | exact At.head _ | apply At.tail))))); simp only [List.nil_append, List.length_map] at HO ⊢; (simp only [Act.put, zA, zB, zC])))

    refine wp_loop_rounds 4 ?_
    rw [rounds_succ]
    go_wp2_with (first | ((with_reducible apply wpList_indexArr (i := 0)); exact rfl; exact rfl; exact rfl; exact Tryz.underlying138; exact (by decide); infer_instance; (simp only [Nat.zero_mul, List.drop_zero, List.take_succ_cons, List.take_zero]; rfl); exact rfl; (simp only [Act.put, zA, zB, zC])) | (first | go_big_skip | ((with_reducible apply wpList_loadAll HO); exact rfl; exact rfl; (repeat (with_reducible (first | exact At.head _ | apply At.tail))); infer_instance; exact rfl; exact rfl; (simp only [Act.put, zA, zB, zC])) | ((with_reducible apply wpList_loadOne HO); exact rfl; exact rfl; (repeat (with_reducible (first | exact At.head _ | apply At.tail))); exact rfl; infer_instance; exact rfl; (simp only [Act.put, zA, zB, zC]))) | ((with_reducible apply wpList_storeAll HO); exact rfl; exact rfl; exact rfl; (repeat (with_reducible (first | exact At.head _ | apply At.tail))); infer_instance; exact rfl; exact rfl; exact rfl; exact rfl; clear HO; intro w HO; (simp only [Act.put])) | ((with_reducible apply wpList_storePart HO); exact rfl; exact rfl; (first | (simp [Act.eval]; rfl) | exact rfl); exact rfl; (repeat (with_reducible (first | exact At.head _ | apply At.tail))); infer_instance; exact rfl; exact (by simp); (simp only [putL, List.drop_succ_cons, List.drop_zero, List.take_succ_cons, List.take_zero, List.length_cons, List.length_nil, List.cons_append, List.nil_append, List.append_nil, Nat.reduceAdd]; rfl); exact rfl; exact rfl; clear HO; intro w HO; (simp only [Act.put])) | ((with_reducible apply wpList_loadPart HO); exact rfl; exact rfl; (repeat (with_reducible (first | exact At.head _ | apply At.tail))); infer_instance; exact (Nat.le_of_ble_eq_true rfl); (simp only [List.drop_succ_cons, List.drop_zero, List.take_succ_cons, List.take_zero]; rfl); exact rfl; (simp only [Act.put, zA, zB, zC])) | (first | ((with_reducible apply wpList_boxAgg _ HO rfl); exact rfl; exact rfl; exact rfl; clear HO; intro b8 w HO; (simp only [Act.put, zA, zB, zC])) | ((with_reducible apply wpList_allocAgg _ HO rfl); exact rfl; infer_instance; exact rfl; clear HO; intro b8 w HO; (simp only [Act.put, zA, zB, zC]))))
    go_loopw [46] (fun i wr => ∃ j : Nat, j ≤ r0.length ∧ i = .int .i64 (j : Int) ∧ Own W wr [box b8 (.cells #[.int .i64 p0, .int .i64 q0, .slice s0 r0.length c0] 32), box b6 (.cells #[.int .i64 p0, .int .i64 q0, .slice s0 r0.length c0, .int .i64 1, .int .i64 q, .slice su rs.length cu, .int .i64 p2, .int .i64 q2, .slice s2 r2.length c2, .map (some b)] 141), mapE Tryz.prog 29 b (0 + j) (putRows (fun _ => none) (([] : List RowS) ++ r0.take j)), box b4 (.cells #[.int .i64 0, .int .i64 0, .slice none 0 0, .int .i64 0, .int .i64 0, .slice none 0 0, .int .i64 0, .int .i64 0, .slice none 0 0, .map none] 141), row 160 5 (.slice su rs.length cu) (rs.map rowC)]) (fun i _ => r0.length - (intOf i).toNat)
    case atStart => exact ⟨0, by omega, rfl, by simpa [putRows] using HO.sub (by exact .cons_cons _ (.cons_cons _ (.cons_cons _ (.cons_cons _ (.cons _ (.cons _ (.cons_cons _ (List.Sublist.refl _))))))))⟩
    case round =>
      clear HO
      obtain ⟨j, hj, rfl, HO⟩ := hrel
      by_cases hjl : j < r0.length
      · have hjI : (j : Int) < (r0.length : Int) := by omega
        obtain ⟨a, rfl, hcell⟩ := R0.out j hjl
        replace hcell := Lib.hid hcell
        have hk := K0.out j hjl
        have HX := Lib.hid (rows_snoc ([] : List RowS) r0 hjl)
        generalize r0[j] = r at *
        obtain ⟨ro, rd, rc, ra, rq⟩ := r
        replace hk := Lib.hid hk
        go_wp2_with (first | (first | go_big_skip | ((with_reducible apply wpList_loadAll HO); exact rfl; exact rfl; (repeat (with_reducible (first | exact At.head _ | apply At.tail))); infer_instance; exact rfl; exact rfl; (simp only [Act.put, zA, zB, zC])) | ((with_reducible apply wpList_loadOne HO); exact rfl; exact rfl; (repeat (with_reducible (first | exact At.head _ | apply At.tail))); exact rfl; infer_instance; exact rfl; (simp only [Act.put, zA, zB, zC]))) | ((with_reducible apply wpList_loadAt HO); exact rfl; exact rfl; exact (fun w' h1 => hcell.out w' _ h1); infer_instance; exact rfl; exact rfl; (simp only [Act.put, zA, zB, zC])) | (first | ((with_reducible apply wpList_boxAgg _ HO rfl); exact rfl; exact rfl; exact rfl; clear HO; intro b10 w HO; (simp only [Act.put, zA, zB, zC])) | ((with_reducible apply wpList_allocAgg _ HO rfl); exact rfl; infer_instance; exact rfl; clear HO; intro b10 w HO; (simp only [Act.put, zA, zB, zC]))) | ((with_reducible apply wpList_storeAll HO); exact rfl; exact rfl; exact rfl; (repeat (with_reducible (first | exact At.head _ | apply At.tail))); infer_instance; exact rfl; exact rfl; exact rfl; exact rfl; clear HO; intro w HO; (simp only [Act.put])) | ((with_reducible apply wpList_loadPart HO); exact rfl; exact rfl; (repeat (with_reducible (first | exact At.head _ | apply At.tail))); infer_instance; exact (Nat.le_of_ble_eq_true rfl); (simp only [List.drop_zero]; rfl); exact rfl; (simp only [Act.put, zA, zB, zC])) | ((with_reducible apply wpList_mapPut HO (kt := 29) (et := 160)); exact rfl; exact rfl; exact rfl; exact rfl; (repeat (with_reducible (first | exact At.head _ | apply At.tail))); exact keyKeyed; exact Tryz.underlying139; exact (by omega); exact keyOf_lit hk.out.1 hk.out.2; exact rfl; clear HO; intro w HO; (simp only [Act.put])))
        go_roundw
        case rel => exact ⟨j + 1, by omega, by go_num, by rw [HX.out]; exact HO.sub (by exact .cons _ (.cons_cons _ (.cons_cons _ (.cons_cons _ (.cons_cons _ (.cons_cons _ (List.Sublist.refl _)))))))⟩
        case measure => simp [intOf] <;> omega
      · obtain rfl : j = r0.length := by omega
        rw [List.take_length] at HO
        rw [List.nil_append, Nat.zero_add] at HO
        have HO0 := HO
        go_wp2_with fail
        rw [rounds_succ]
        clear HO0
        go_wp2_with (first | ((with_reducible apply wpList_indexArr (i := 1)); exact rfl; exact rfl; exact rfl; exact Tryz.underlying138; exact (by decide); infer_instance; (simp only [Nat.one_mul, List.drop_succ_cons, List.drop_zero, List.take_succ_cons, List.take_zero]; rfl); exact rfl; (simp only [Act.put, zA, zB, zC])) | (first | go_big_skip | ((with_reducible apply wpList_loadAll HO); exact rfl; exact rfl; (repeat (with_reducible (first | exact At.head _ | apply At.tail))); infer_instance; exact rfl; exact rfl; (simp only [Act.put, zA, zB, zC])) | ((with_reducible apply wpList_loadOne HO); exact rfl; exact rfl; (repeat (with_reducible (first | exact At.head _ | apply At.tail))); exact rfl; infer_instance; exact rfl; (simp only [Act.put, zA, zB, zC]))) | ((with_reducible apply wpList_storeAll HO); exact rfl; exact rfl; exact rfl; (repeat (with_reducible (first | exact At.head _ | apply At.tail))); infer_instance; exact rfl; exact rfl; exact rfl; exact rfl; clear HO; intro w HO; (simp only [Act.put])) | ((with_reducible apply wpList_storePart HO); exact rfl; exact rfl; (first | (simp [Act.eval]; rfl) | exact rfl); exact rfl; (repeat (with_reducible (first | exact At.head _ | apply At.tail))); infer_instance; exact rfl; exact (by simp); (simp only [putL, List.drop_succ_cons, List.drop_zero, List.take_succ_cons, List.take_zero, List.length_cons, List.length_nil, List.cons_append, List.nil_append, List.append_nil, Nat.reduceAdd]; rfl); exact rfl; exact rfl; clear HO; intro w HO; (simp only [Act.put])) | ((with_reducible apply wpList_loadPart HO); exact rfl; exact rfl; (repeat (with_reducible (first | exact At.head _ | apply At.tail))); infer_instance; exact (Nat.le_of_ble_eq_true rfl); (simp only [List.drop_succ_cons, List.drop_zero, List.take_succ_cons, List.take_zero]; rfl); exact rfl; (simp only [Act.put, zA, zB, zC])) | (first | ((with_reducible apply wpList_boxAgg _ HO rfl); exact rfl; exact rfl; exact rfl; clear HO; intro b8 w HO; (simp only [Act.put, zA, zB, zC])) | ((with_reducible apply wpList_allocAgg _ HO rfl); exact rfl; infer_instance; exact rfl; clear HO; intro b8 w HO; (simp only [Act.put, zA, zB, zC]))))
        go_loopw [46] (fun i wr => ∃ j : Nat, j ≤ rs.length ∧ i = .int .i64 (j : Int) ∧ Own W wr [box b8 (.cells #[.int .i64 1, .int .i64 q, .slice su rs.length cu] 32), box b6 (.cells #[.int .i64 p0, .int .i64 q0, .slice s0 r0.length c0, .int .i64 1, .int .i64 q, .slice su rs.length cu, .int .i64 p2, .int .i64 q2, .slice s2 r2.length c2, .map (some b)] 141), mapE Tryz.prog 29 b (r0.length + j) (putRows (fun _ => none) (r0 ++ rs.take j)), box b4 (.cells #[.int .i64 0, .int .i64 0, .slice none 0 0, .int .i64 0, .int .i64 0, .slice none 0 0, .int .i64 0, .int .i64 0, .slice none 0 0, .map none] 141), row 160 5 (.slice su rs.length cu) (rs.map rowC)]) (fun i _ => rs.length - (intOf i).toNat)
        case atStart => exact ⟨0, by omega, rfl, by simpa using HO.sub (by exact .cons_cons _ (.cons _ (.cons_cons _ (.cons_cons _ (.cons_cons _ (.cons_cons _ (List.Sublist.refl _)))))))⟩
        case round =>
          clear HO
          obtain ⟨j, hj, rfl, HO⟩ := hrel
          by_cases hjl : j < rs.length
          · have hjI : (j : Int) < (rs.length : Int) := by omega
            obtain ⟨q9, c9, h9⟩ := (HO.rowForm (t := 160) (k := 5) (v := .slice su rs.length cu) (by (repeat (with_reducible (first | exact At.head _ | apply At.tail))))).2 (by rw [List.length_map]; omega)
            rw [List.length_map] at h9
            cases h9
            have HGJ := Lib.hid (show (rs.map rowC)[j]? = some (rowC rs[j]) by rw [List.getElem?_map, List.getElem?_eq_getElem hjl]; rfl)
            have hk := K1.out j hjl
            have HX := Lib.hid (rows_snoc r0 rs hjl)
            generalize rs[j] = r at *
            obtain ⟨ro, rd, rc, ra, rq⟩ := r
            replace hk := Lib.hid hk
            go_wp2_with (first | (first | go_big_skip | ((with_reducible apply wpList_loadAll HO); exact rfl; exact rfl; (repeat (with_reducible (first | exact At.head _ | apply At.tail))); infer_instance; exact rfl; exact rfl; (simp only [Act.put, zA, zB, zC])) | ((with_reducible apply wpList_loadOne HO); exact rfl; exact rfl; (repeat (with_reducible (first | exact At.head _ | apply At.tail))); exact rfl; infer_instance; exact rfl; (simp only [Act.put, zA, zB, zC]))) | ((with_reducible apply wpList_loadAt HO); exact rfl; exact rfl; exact (fun w' h1 => h1.rowAt (by (repeat (with_reducible (first | exact At.head _ | apply At.tail)))) (rowC_len rs) HGJ.out); infer_instance; exact rfl; exact rfl; (simp only [Act.put, zA, zB, zC])) | (first | ((with_reducible apply wpList_boxAgg _ HO rfl); exact rfl; exact rfl; exact rfl; clear HO; intro b10 w HO; (simp only [Act.put, zA, zB, zC])) | ((with_reducible apply wpList_allocAgg _ HO rfl); exact rfl; infer_instance; exact rfl; clear HO; intro b10 w HO; (simp only [Act.put, zA, zB, zC]))) | ((with_reducible apply wpList_storeAll HO); exact rfl; exact rfl; exact rfl; (repeat (with_reducible (first | exact At.head _ | apply At.tail))); infer_instance; exact rfl; exact rfl; exact rfl; exact rfl; clear HO; intro w HO; (simp only [Act.put])) | ((with_reducible apply wpList_loadPart HO); exact rfl; exact rfl; (repeat (with_reducible (first | exact At.head _ | apply At.tail))); infer_instance; exact (Nat.le_of_ble_eq_true rfl); (simp only [List.drop_zero]; rfl); exact rfl; (simp only [Act.put, zA, zB, zC])) | ((with_reducible apply wpList_mapPut HO (kt := 29) (et := 160)); exact rfl; exact rfl; exact rfl; exact rfl; (repeat (with_reducible (first | exact At.head _ | apply At.tail))); exact keyKeyed; exact Tryz.underlying139; exact (by omega); exact keyOf_lit hk.out.1 hk.out.2; exact rfl; clear HO; intro w HO; (simp only [Act.put])))
            go_roundw
            case rel => exact ⟨j + 1, by omega, by go_num, by rw [HX.out]; exact HO.sub (by exact .cons _ (.cons_cons _ (.cons_cons _ (.cons_cons _ (.cons_cons _ (.cons_cons _ (List.Sublist.refl _)))))))⟩
            case measure => simp [intOf] <;> omega
          · obtain rfl : j = rs.length := by omega
            rw [List.take_length] at HO
            have HO0 := HO
            go_wp2_with fail
            rw [rounds_succ]
            clear HO0
            go_wp2_with (first | ((with_reducible apply wpList_indexArr (i := 2)); exact rfl; exact rfl; exact rfl; exact Tryz.underlying138; exact (by decide); infer_instance; (simp only [Nat.reduceMul, List.drop_succ_cons, List.drop_zero, List.take_succ_cons, List.take_zero]; rfl); exact rfl; (simp only [Act.put, zA, zB, zC])) | (first | go_big_skip | ((with_reducible apply wpList_loadAll HO); exact rfl; exact rfl; (repeat (with_reducible (first | exact At.head _ | apply At.tail))); infer_instance; exact rfl; exact rfl; (simp only [Act.put, zA, zB, zC])) | ((with_reducible apply wpList_loadOne HO); exact rfl; exact rfl; (repeat (with_reducible (first | exact At.head _ | apply At.tail))); exact rfl; infer_instance; exact rfl; (simp only [Act.put, zA, zB, zC]))) | ((with_reducible apply wpList_storeAll HO); exact rfl; exact rfl; exact rfl; (repeat (with_reducible (first | exact At.head _ | apply At.tail))); infer_instance; exact rfl; exact rfl; exact rfl; exact rfl; clear HO; intro w HO; (simp only [Act.put])) | ((with_reducible apply wpList_storePart HO); exact rfl; exact rfl; (first | (simp [Act.eval]; rfl) | exact rfl); exact rfl; (repeat (with_reducible (first | exact At.head _ | apply At.tail))); infer_instance; exact rfl; exact (by simp); (simp only [putL, List.drop_succ_cons, List.drop_zero, List.take_succ_cons, List.take_zero, List.length_cons, List.length_nil, List.cons_append, List.nil_append, List.append_nil, Nat.reduceAdd]; rfl); exact rfl; exact rfl; clear HO; intro w HO; (simp only [Act.put])) | ((with_reducible apply wpList_loadPart HO); exact rfl; exact rfl; (repeat (with_reducible (first | exact At.head _ | apply At.tail))); infer_instance; exact (Nat.le_of_ble_eq_true rfl); (simp only [List.drop_succ_cons, List.drop_zero, List.take_succ_cons, List.take_zero]; rfl); exact rfl; (simp only [Act.put, zA, zB, zC])) | (first | ((with_reducible apply wpList_boxAgg _ HO rfl); exact rfl; exact rfl; exact rfl; clear HO; intro b8 w HO; (simp only [Act.put, zA, zB, zC])) | ((with_reducible apply wpList_allocAgg _ HO rfl); exact rfl; infer_instance; exact rfl; clear HO; intro b8 w HO; (simp only [Act.put, zA, zB, zC]))))
            go_loopw [46] (fun i wr => ∃ j : Nat, j ≤ r2.length ∧ i = .int .i64 (j : Int) ∧ Own W wr [box b8 (.cells #[.int .i64 p2, .int .i64 q2, .slice s2 r2.length c2] 32), box b6 (.cells #[.int .i64 p0, .int .i64 q0, .slice s0 r0.length c0, .int .i64 1, .int .i64 q, .slice su rs.length cu, .int .i64 p2, .int .i64 q2, .slice s2 r2.length c2, .map (some b)] 141), mapE Tryz.prog 29 b ((r0.length + rs.length) + j) (putRows (fun _ => none) ((r0 ++ rs) ++ r2.take j)), box b4 (.cells #[.int .i64 0, .int .i64 0, .slice none 0 0, .int .i64 0, .int .i64 0, .slice none 0 0, .int .i64 0, .int .i64 0, .slice none 0 0, .map none] 141), row 160 5 (.slice su rs.length cu) (rs.map rowC)]) (fun i _ => r2.length - (intOf i).toNat)
            case atStart => exact ⟨0, by omega, rfl, by simpa using HO.sub (by exact .cons_cons _ (.cons _ (.cons_cons _ (.cons_cons _ (.cons_cons _ (.cons_cons _ (List.Sublist.refl _)))))))⟩
            case round =>
              clear HO
              obtain ⟨j, hj, rfl, HO⟩ := hrel
              by_cases hjl : j < r2.length
              · have hjI : (j : Int) < (r2.length : Int) := by omega
                obtain ⟨a, rfl, hcell⟩ := R2.out j hjl
                replace hcell := Lib.hid hcell
                have hk := K2.out j hjl
                have HX := Lib.hid (rows_snoc (r0 ++ rs) r2 hjl)
                generalize r2[j] = r at *
                obtain ⟨ro, rd, rc, ra, rq⟩ := r
                replace hk := Lib.hid hk
                go_wp2_with (first | (first | go_big_skip | ((with_reducible apply wpList_loadAll HO); exact rfl; exact rfl; (repeat (with_reducible (first | exact At.head _ | apply At.tail))); infer_instance; exact rfl; exact rfl; (simp only [Act.put, zA, zB, zC])) | ((with_reducible apply wpList_loadOne HO); exact rfl; exact rfl; (repeat (with_reducible (first | exact At.head _ | apply At.tail))); exact rfl; infer_instance; exact rfl; (simp only [Act.put, zA, zB, zC]))) | ((with_reducible apply wpList_loadAt HO); exact rfl; exact rfl; exact (fun w' h1 => hcell.out w' _ h1); infer_instance; exact rfl; exact rfl; (simp only [Act.put, zA, zB, zC])) | (first | ((with_reducible apply wpList_boxAgg _ HO rfl); exact rfl; exact rfl; exact rfl; clear HO; intro b10 w HO; (simp only [Act.put, zA, zB, zC])) | ((with_reducible apply wpList_allocAgg _ HO rfl); exact rfl; infer_instance; exact rfl; clear HO; intro b10 w HO; (simp only [Act.put, zA, zB, zC]))) | ((with_reducible apply wpList_storeAll HO); exact rfl; exact rfl; exact rfl; (repeat (with_reducible (first | exact At.head _ | apply At.tail))); infer_instance; exact rfl; exact rfl; exact rfl; exact rfl; clear HO; intro w HO; (simp only [Act.put])) | ((with_reducible apply wpList_loadPart HO); exact rfl; exact rfl; (repeat (with_reducible (first | exact At.head _ | apply At.tail))); infer_instance; exact (Nat.le_of_ble_eq_true rfl); (simp only [List.drop_zero]; rfl); exact rfl; (simp only [Act.put, zA, zB, zC])) | ((with_reducible apply wpList_mapPut HO (kt := 29) (et := 160)); exact rfl; exact rfl; exact rfl; exact rfl; (repeat (with_reducible (first | exact At.head _ | apply At.tail))); exact keyKeyed; exact Tryz.underlying139; exact (by omega); exact keyOf_lit hk.out.1 hk.out.2; exact rfl; clear HO; intro w HO; (simp only [Act.put])))
                go_roundw
                case rel => exact ⟨j + 1, by omega, by go_num, by rw [HX.out]; exact HO.sub (by exact .cons _ (.cons_cons _ (.cons_cons _ (.cons_cons _ (.cons_cons _ (.cons_cons _ (List.Sublist.refl _)))))))⟩
                case measure => simp [intOf] <;> omega
              · obtain rfl : j = r2.length := by omega
                rw [List.take_length] at HO
                go_wp2_with fail
                rw [rounds_succ]
                go_wp2_with (first | (first | go_big_skip | ((with_reducible apply wpList_loadAll HO); exact rfl; exact rfl; (repeat (with_reducible (first | exact At.head _ | apply At.tail))); infer_instance; exact rfl; exact rfl; (simp only [Act.put, zA, zB, zC])) | ((with_reducible apply wpList_loadOne HO); exact rfl; exact rfl; (repeat (with_reducible (first | exact At.head _ | apply At.tail))); exact rfl; infer_instance; exact rfl; (simp only [Act.put, zA, zB, zC]))) | ((with_reducible apply wpList_storeAll HO); exact rfl; exact rfl; exact rfl; (repeat (with_reducible (first | exact At.head _ | apply At.tail))); infer_instance; exact rfl; exact rfl; exact rfl; exact rfl; clear HO; intro w HO; (simp only [Act.put])))
                refine bodyPost_ret (results_box HO rfl rfl (by (repeat (with_reducible (first | exact At.head _ | apply At.tail)))) inferInstance rfl rfl) rfl ?_
                exact HF.out _ _ _ _ _ (HO.sub (by exact .cons _ (.cons _ (.cons_cons _ (.cons _ (.cons_cons _ (List.Sublist.refl _))))))) ⟨_, _, rfl⟩ (by rw [List.append_assoc])

set_option maxHeartbeats 8000000 in
set_option maxRecDepth 100000 in
theorem accept2_any {W : World} {v0 v1 v2 v : Value} (A : InS) (m : Value) (q : Int) (rs : List RowS) (h0 : IsRows W v0 A.r0) (h1 : IsRows W v1 A.r1) (h2 : IsRows W v2 A.r2) (h : IsRows W v rs) (hA : InOk A) (hm : m = .map none ∨ ∃ b, m = .map (some b)) (hL : Laid W) (hacc : accE A 2 q rs = 0) :
    Calls Tryz.prog 130 #[.agg #[.int .i64 (A).p0, .int .i64 (A).q0, v0, .int .i64 (A).p1, .int .i64 (A).q1, v1, .int .i64 (A).p2, .int .i64 (A).q2, v2, m], .agg #[.int .i64 2, .int .i64 q, v]] W (AccPost A 2 q rs v0 v1 v2 W) := by
  obtain ⟨hok, hlt⟩ := accE_ok hacc
  have V := fun w (hb : Below W.heap.size W w) => rowsValid_any 2 q (h.below hb h.lt) (hL.below hb hL.1)
  rw [hok] at V
  obtain ⟨_, _, _, _, hrl, hck⟩ := okStmt_ok hok
  obtain ⟨p0, q0, r0, p1, q1, r1, p2, q2, r2⟩ := A
  obtain ⟨k0, k1, k2⟩ := hA
  simp only at h0 h1 h2 k0 k1 k2
  have HF := Lib.hid (fun (f : Lit → Option Value) (b n : Nat) (u : Value) (w' : World) (hO : Own W w' [mapE Tryz.prog 29 b n f, row 160 5 u (rs.map rowC)]) (hu : ∃ p' c', u = .slice p' rs.length c') (hf : f = putRows (fun _ => none) (r0 ++ (r1 ++ rs))) =>
    (show AccPost ⟨p0, q0, r0, p1, q1, r1, p2, q2, r2⟩ 2 q rs v0 v1 v2 W (.returned (.tuple #[.agg #[.int .i64 p0, .int .i64 q0, v0, .int .i64 p1, .int .i64 q1, v1, .int .i64 2, .int .i64 q, u, .map (some b)], .int .i64 0])) w' from by
      unfold AccPost
      rw [if_pos hacc]
      subst hf
      exact ⟨b, n, u, hO, hu, rfl⟩))
  have hlt' : decide (q ≤ q2) = false := by
    have hlt2 : q2 < q := hlt
    simp; omega
  generalize hP : AccPost ⟨p0, q0, r0, p1, q1, r1, p2, q2, r2⟩ 2 q rs v0 v1 v2 W = Post at *
  have HU := Lib.hid (fun (w' : World) (L : List Ent) (hO : Own W w' L) => isL_of_isRows (h.below hO.grown h.lt))
  obtain ⟨s, c, rfl, -⟩ := h.slice
  obtain ⟨s0, c0, rfl, -⟩ := h0.slice
  obtain ⟨s1, c1, rfl, -⟩ := h1.slice
  obtain ⟨s2, c2, rfl, -⟩ := h2.slice
  have R0 := Lib.hid (fun j (hj : j < r0.length) => oldRow h0 rfl hj)
  have R1 := Lib.hid (fun j (hj : j < r1.length) => oldRow h1 rfl hj)
  have K0 := Lib.hid (fun j (hj : j < r0.length) => rows_keys k0 hj)
  have K1 := Lib.hid (fun j (hj : j < r1.length) => rows_keys k1 hj)
  have K2 := Lib.hid (fun j (hj : j < rs.length) => rows_keys hck hj)
  have n0 := rows_len k0
  have n1 := rows_len k1
  have n2 := rows_len k2
  have hmx : maxLen = 9223372036854775807 := rfl
  have HO := (Own.start W).nil 160 5
  clear h0 h1 h2 h k0 k1 k2 hck hok hlt hacc hL hP
  rcases hm with rfl | ⟨mb, rfl⟩
  all_goals
    go_enter Tryz.func130, Tryz.ntmps130
    go_wp2_with (first | ((with_reducible apply wpList_boxAgg _ HO rfl); exact rfl; exact rfl; exact rfl; clear HO; intro b2 w HO; (simp only [Act.put, zA, zB, zC])) | ((have _h : Own W _ (box _ _ :: box _ _ :: _) := HO); clear _h; ((with_reducible apply wpList_allocAgg _ HO rfl); exact rfl; infer_instance; exact rfl; clear HO; intro b4 w HO; (simp only [Act.put, zA, zB, zC]))) | (first | go_big_skip | ((with_reducible apply wpList_loadAll HO); exact rfl; exact rfl; (repeat (with_reducible (first | exact At.head _ | apply At.tail))); infer_instance; exact rfl; exact rfl; (simp only [Act.put, zA, zB, zC])) | ((with_reducible apply wpList_loadOne HO); exact rfl; exact rfl; (repeat (with_reducible (first | exact At.head _ | apply At.tail))); exact rfl; infer_instance; exact rfl; (simp only [Act.put, zA, zB, zC]))) | (go_at_call 159; go_must ((with_reducible refine (V _ HO.grown).mono ?_); rintro e w ⟨rfl, hb⟩; replace HO := HO.call hb; clear hb)))
    refine region_own HO (by kernel_rfl) (by kernel_rfl) ?_
    clear HO
    intro F HF
    repeat (first | (first | go_big_quiet_skip | ((with_reducible apply wpQuiet_loadAll HF); exact rfl; exact rfl; (repeat (with_reducible (first | exact At.head _ | apply At.tail))); infer_instance; exact rfl; exact rfl; (simp only [Act.put, zA, zB, zC])) | ((with_reducible apply wpQuiet_loadOne HF); exact rfl; exact rfl; (repeat (with_reducible (first | exact At.head _ | apply At.tail))); exact rfl; infer_instance; exact rfl; (simp only [Act.put, zA, zB, zC])) | ((with_reducible apply wpQuiet_loadPart HF); exact rfl; exact rfl; (repeat (with_reducible (first | exact At.head _ | apply At.tail))); infer_instance; exact (Nat.le_of_ble_eq_true rfl); (simp only [List.drop_succ_cons, List.drop_zero, List.take_succ_cons, List.take_zero]; rfl); exact rfl; (simp only [Act.put, zA, zB, zC]))) | go_big_quiet_step (fail))
    refine wpQuiet_nil ?_
    intro x
    have HO := HF.own x
    clear HF
    generalize F x = w at *
    clear x F
    go_wp2_with (first | (first | go_big_skip | ((with_reducible apply wpList_loadAll HO); exact rfl; exact rfl; (repeat (with_reducible (first | exact At.head _ | apply At.tail))); infer_instance; exact rfl; exact rfl; (simp only [Act.put, zA, zB, zC])) | ((with_reducible apply wpList_loadOne HO); exact rfl; exact rfl; (repeat (with_reducible (first | exact At.head _ | apply At.tail))); exact rfl; infer_instance; exact rfl; (simp only [Act.put, zA, zB, zC]))) | ((with_reducible apply wpList_storeAll HO); exact rfl; exact rfl; exact rfl; (repeat (with_reducible (first | exact At.head _ | apply At.tail))); infer_instance; exact rfl; exact rfl; exact rfl; exact rfl; clear HO; intro w HO; (simp only [Act.put])) | ((with_reducible apply wpList_storePart HO); exact rfl; exact rfl; (first | (simp [Act.eval]; rfl) | exact rfl); exact rfl; (repeat (with_reducible (first | exact At.head _ | apply At.tail))); infer_instance; exact rfl; exact (by simp); (simp only [putL, List.drop_succ_cons, List.drop_zero, List.take_succ_cons, List.take_zero, List.length_cons, List.length_nil, List.cons_append, List.nil_append, List.append_nil, Nat.reduceAdd]; rfl); exact rfl; exact rfl; clear HO; intro w HO; (simp only [Act.put])) | ((with_reducible apply wpList_storeOne HO); exact rfl; exact rfl; (first | (simp [Act.eval]; rfl) | exact rfl); exact rfl; (repeat (with_reducible (first | exact At.head _ | apply At.tail))); infer_instance; exact (by simp); (simp only [List.set_cons_succ, List.set_cons_zero]; rfl); exact rfl; clear HO; intro w HO; (simp only [Act.put])) | ((with_reducible apply wpList_loadPart HO); exact rfl; exact rfl; (repeat (with_reducible (first | exact At.head _ | apply At.tail))); infer_instance; exact (Nat.le_of_ble_eq_true rfl); (simp only [List.drop_zero, List.take_succ_cons, List.take_zero]; rfl); exact rfl; (simp only [Act.put, zA, zB, zC])) | ((with_reducible apply wpList_makeMap HO (kt := 29)); exact rfl; exact rfl; clear HO; intro b w HO; (simp only [Act.put, zA, zB, zC])) | ((with_reducible apply wpList_allocAgg _ HO rfl); exact rfl; infer_instance; exact rfl; clear HO; intro b6 w HO; (simp only [Act.put, zA, zB, zC])) | ((with_reducible apply wpList_appendAll HO); exact rfl; infer_instance; infer_instance; (first | (simp [Act.eval]; rfl) | exact rfl); exact rfl; exact (HU.out _ _ HO); exact rowC_len _; exact rowC_one _; intro _; (repeat (with_reducible (first | exact At.head _ | apply At.tail))); (simp; omega); decide; exact rfl; clear HO; intro v2 w HO hv2; clear hv2; (obtain ⟨⟨su, cu, rfl⟩, -⟩ := HO.rowForm (v := v2) (by (repeat (with_reducible (first | exact At.head _ | apply At.tail))))); simp only [List.nil_append, List.length_map] at HO ⊢; (simp only [Act.put, zA, zB, zC])))

    refine wp_loop_rounds 4 ?_
    rw [rounds_succ]
    go_wp2_with (first | ((with_reducible apply wpList_indexArr (i := 0)); exact rfl; exact rfl; exact rfl; exact Tryz.underlying138; exact (by decide); infer_instance; (simp only [Nat.zero_mul, List.drop_zero, List.take_succ_cons, List.take_zero]; rfl); exact rfl; (simp only [Act.put, zA, zB, zC])) | (first | go_big_skip | ((with_reducible apply wpList_loadAll HO); exact rfl; exact rfl; (repeat (with_reducible (first | exact At.head _ | apply At.tail))); infer_instance; exact rfl; exact rfl; (simp only [Act.put, zA, zB, zC])) | ((with_reducible apply wpList_loadOne HO); exact rfl; exact rfl; (repeat (with_reducible (first | exact At.head _ | apply At.tail))); exact rfl; infer_instance; exact rfl; (simp only [Act.put, zA, zB, zC]))) | ((with_reducible apply wpList_storeAll HO); exact rfl; exact rfl; exact rfl; (repeat (with_reducible (first | exact At.head _ | apply At.tail))); infer_instance; exact rfl; exact rfl; exact rfl; exact rfl; clear HO; intro w HO; (simp only [Act.put])) | ((with_reducible apply wpList_storePart HO); exact rfl; exact rfl; (first | (simp [Act.eval]; rfl) | exact rfl); exact rfl; (repeat (with_reducible (first | exact At.head _ | apply At.tail))); infer_instance; exact rfl; exact (by simp); (simp only [putL, List.drop_succ_cons, List.drop_zero, List.take_succ_cons, List.take_zero, List.length_cons, List.length_nil, List.cons_append, List.nil_append, List.append_nil, Nat.reduceAdd]; rfl); exact rfl; exact rfl; clear HO; intro w HO; (simp only [Act.put])) | ((with_reducible apply wpList_loadPart HO); exact rfl; exact rfl; (repeat (with_reducible (first | exact At.head _ | apply At.tail))); infer_instance; exact (Nat.le_of_ble_eq_true rfl); (simp only [List.drop_succ_cons, List.drop_zero, List.take_succ_cons, List.take_zero]; rfl); exact rfl; (simp only [Act.put, zA, zB, zC])) | (first | ((with_reducible apply wpList_boxAgg _ HO rfl); exact rfl; exact rfl; exact rfl; clear HO; intro b8 w HO; (simp only [Act.put, zA, zB, zC])) | ((with_reducible apply wpList_allocAgg _ HO rfl); exact rfl; infer_instance; exact rfl; clear HO; intro b8 w HO; (simp only [Act.put, zA, zB, zC]))))
    go_loopw [46] (fun i wr => ∃ j : Nat, j ≤ r0.length ∧ i = .int .i64 (j : Int) ∧ Own W wr [box b8 (.cells #[.int .i64 p0, .int .i64 q0, .slice s0 r0.length c0] 32), box b6 (.cells #[.int .i64 p0, .int .i64 q0, .slice s0 r0.length c0, .int .i64 p1, .int .i64 q1, .slice s1 r1.length c1, .int .i64 2, .int .i64 q, .slice su rs.length cu, .map (some b)] 141), mapE Tryz.prog 29 b (0 + j) (putRows (fun _ => none) (([] : List RowS) ++ r0.take j)), box b4 (.cells #[.int .i64 0, .int .i64 0, .slice none 0 0, .int .i64 0, .int .i64 0, .slice none 0 0, .int .i64 0, .int .i64 0, .slice none 0 0, .map none] 141), row 160 5 (.slice su rs.length cu) (rs.map rowC)]) (fun i _ => r0.length - (intOf i).toNat)
    case atStart => exact ⟨0, by omega, rfl, by simpa [putRows] using HO.sub (by exact .cons_cons _ (.cons_cons _ (.cons_cons _ (.cons_cons _ (.cons _ (.cons _ (.cons_cons _ (List.Sublist.refl _))))))))⟩
    case round =>
      clear HO
      obtain ⟨j, hj, rfl, HO⟩ := hrel
      by_cases hjl : j < r0.length
      · have hjI : (j : Int) < (r0.length : Int) := by omega
        obtain ⟨a, rfl, hcell⟩ := R0.out j hjl
        replace hcell := Lib.hid hcell
        have hk := K0.out j hjl
        have HX := Lib.hid (rows_snoc ([] : List RowS) r0 hjl)
        generalize r0[j] = r at *
        obtain ⟨ro, rd, rc, ra, rq⟩ := r
        replace hk := Lib.hid hk
        go_wp2_with (first | (first | go_big_skip | ((with_reducible apply wpList_loadAll HO); exact rfl; exact rfl; (repeat (with_reducible (first | exact At.head _ | apply At.tail))); infer_instance; exact rfl; exact rfl; (simp only [Act.put, zA, zB, zC])) | ((with_reducible apply wpList_loadOne HO); exact rfl; exact rfl; (repeat (with_reducible (first | exact At.head _ | apply At.tail))); exact rfl; infer_instance; exact rfl; (simp only [Act.put, zA, zB, zC]))) | ((with_reducible apply wpList_loadAt HO); exact rfl; exact rfl; exact (fun w' h1 => hcell.out w' _ h1); infer_instance; exact rfl; exact rfl; (simp only [Act.put, zA, zB, zC])) | (first | ((with_reducible apply wpList_boxAgg _ HO rfl); exact rfl; exact rfl; exact rfl; clear HO; intro b10 w HO; (simp only [Act.put, zA, zB, zC])) | ((with_reducible apply wpList_allocAgg _ HO rfl); exact rfl; infer_instance; exact rfl; clear HO; intro b10 w HO; (simp only [Act.put, zA, zB, zC]))) | ((with_reducible apply wpList_storeAll HO); exact rfl; exact rfl; exact rfl; (repeat (with_reducible (first | exact At.head _ | apply At.tail))); infer_instance; exact rfl; exact rfl; exact rfl; exact rfl; clear HO; intro w HO; (simp only [Act.put])) | ((with_reducible apply wpList_loadPart HO); exact rfl; exact rfl; (repeat (with_reducible (first | exact At.head _ | apply At.tail))); infer_instance; exact (Nat.le_of_ble_eq_true rfl); (simp only [List.drop_zero]; rfl); exact rfl; (simp only [Act.put, zA, zB, zC])) | ((with_reducible apply wpList_mapPut HO (kt := 29) (et := 160)); exact rfl; exact rfl; exact rfl; exact rfl; (repeat (with_reducible (first | exact At.head _ | apply At.tail))); exact keyKeyed; exact Tryz.underlying139; exact (by omega); exact keyOf_lit hk.out.1 hk.out.2; exact rfl; clear HO; intro w HO; (simp only [Act.put])))
        go_roundw
        case rel => exact ⟨j + 1, by omega, by go_num, by rw [HX.out]; exact HO.sub (by exact .cons _ (.cons_cons _ (.cons_cons _ (.cons_cons _ (.cons_cons _ (.cons_cons _ (List.Sublist.refl _)))))))⟩
        case measure => simp [intOf] <;> omega
      · obtain rfl : j = r0.length := by omega
        rw [List.take_length] at HO
        rw [List.nil_append, Nat.zero_add] at HO
        have HO0 := HO
        go_wp2_with fail
        rw [rounds_succ]
        clear HO0
        go_wp2_with (first | ((with_reducible apply wpList_indexArr (i := 1)); exact rfl; exact rfl; exact rfl; exact Tryz.underlying138; exact (by decide); infer_instance; (simp only [Nat.one_mul, List.drop_succ_cons, List.drop_zero, List.take_succ_cons, List.take_zero]; rfl); exact rfl; (simp only [Act.put, zA, zB, zC])) | (first | go_big_skip | ((with_reducible apply wpList_loadAll HO); exact rfl; exact rfl; (repeat (with_reducible (first | exact At.head _ | apply At.tail))); infer_instance; exact rfl; exact rfl; (simp only [Act.put, zA, zB, zC])) | ((with_reducible apply wpList_loadOne HO); exact rfl; exact rfl; (repeat (with_reducible (first | exact At.head _ | apply At.tail))); exact rfl; infer_instance; exact rfl; (simp only [Act.put, zA, zB, zC]))) | ((with_reducible apply wpList_storeAll HO); exact rfl; exact rfl; exact rfl; (repeat (with_reducible (first | exact At.head _ | apply At.tail))); infer_instance; exact rfl; exact rfl; exact rfl; exact rfl; clear HO; intro w HO; (simp only [Act.put])) | ((with_reducible apply wpList_storePart HO); exact rfl; exact rfl; (first | (simp [Act.eval]; rfl) | exact rfl); exact rfl; (repeat (with_reducible (first | exact At.head _ | apply At.tail))); infer_instance; exact rfl; exact (by simp); (simp only [putL, List.drop_succ_cons, List.drop_zero, List.take_succ_cons, List.take_zero, List.length_cons, List.length_nil, List.cons_append, List.nil_append, List.append_nil, Nat.reduceAdd]; rfl); exact rfl; exact rfl; clear HO; intro w HO; (simp only [Act.put])) | ((with_reducible apply wpList_loadPart HO); exact rfl; exact rfl; (repeat (with_reducible (first | exact At.head _ | apply At.tail))); infer_instance; exact (Nat.le_of_ble_eq_true rfl); (simp only [List.drop_succ_cons, List.drop_zero, List.take_succ_cons, List.take_zero]; rfl); exact rfl; (simp only [Act.put, zA, zB, zC])) | (first | ((with_reducible apply wpList_boxAgg _ HO rfl); exact rfl; exact rfl; exact rfl; clear HO; intro b8 w HO; (simp only [Act.put, zA, zB, zC])) | ((with_reducible apply wpList_allocAgg _ HO rfl); exact rfl; infer_instance; exact rfl; clear HO; intro b8 w HO; (simp only [Act.put, zA, zB, zC]))))
        go_loopw [46] (fun i wr => ∃ j : Nat, j ≤ r1.length ∧ i = .int .i64 (j : Int) ∧ Own W wr [box b8 (.cells #[.int .i64 p1, .int .i64 q1, .slice s1 r1.length c1] 32), box b6 (.cells #[.int .i64 p0, .int .i64 q0, .slice s0 r0.length c0, .int .i64 p1, .int .i64 q1, .slice s1 r1.length c1, .int .i64 2, .int .i64 q, .slice su rs.length cu, .map (some b)] 141), mapE Tryz.prog 29 b (r0.length + j) (putRows (fun _ => none) (r0 ++ r1.take j)), box b4 (.cells #[.int .i64 0, .int .i64 0, .slice none 0 0, .int .i64 0, .int .i64 0, .slice none 0 0, .int .i64 0, .int .i64 0, .slice none 0 0, .map none] 141), row 160 5 (.slice su rs.length cu) (rs.map rowC)]) (fun i _ => r1.length - (intOf i).toNat)
        case atStart => exact ⟨0, by omega, rfl, by simpa using HO.sub (by exact .cons_cons _ (.cons _ (.cons_cons _ (.cons_cons _ (.cons_cons _ (.cons_cons _ (List.Sublist.refl _)))))))⟩
        case round =>
          clear HO
          obtain ⟨j, hj, rfl, HO⟩ := hrel
          by_cases hjl : j < r1.length
          · have hjI : (j : Int) < (r1.length : Int) := by omega
            obtain ⟨a, rfl, hcell⟩ := R1.out j hjl
            replace hcell := Lib.hid hcell
            have hk := K1.out j hjl
            have HX := Lib.hid (rows_snoc r0 r1 hjl)
            generalize r1[j] = r at *
            obtain ⟨ro, rd, rc, ra, rq⟩ := r
            replace hk := Lib.hid hk
            go_wp2_with (first | (first | go_big_skip | ((with_reducible apply wpList_loadAll HO); exact rfl; exact rfl; (repeat (with_reducible (first | exact At.head _ | apply At.tail))); infer_instance; exact rfl; exact rfl; (simp only [Act.put, zA, zB, zC])) | ((with_reducible apply wpList_loadOne HO); exact rfl; exact rfl; (repeat (with_reducible (first | exact At.head _ | apply At.tail))); exact rfl; infer_instance; exact rfl; (simp only [Act.put, zA, zB, zC]))) | ((with_reducible apply wpList_loadAt HO); exact rfl; exact rfl; exact (fun w' h1 => hcell.out w' _ h1); infer_instance; exact rfl; exact rfl; (simp only [Act.put, zA, zB, zC])) | (first | ((with_reducible apply wpList_boxAgg _ HO rfl); exact rfl; exact rfl; exact rfl; clear HO; intro b10 w HO; (simp only [Act.put, zA, zB, zC])) | ((with_reducible apply wpList_allocAgg _ HO rfl); exact rfl; infer_instance; exact rfl; clear HO; intro b10 w HO; (simp only [Act.put, zA, zB, zC]))) | ((with_reducible apply wpList_storeAll HO); exact rfl; exact rfl; exact rfl; (repeat (with_reducible (first | exact At.head _ | apply At.tail))); infer_instance; exact rfl; exact rfl; exact rfl; exact rfl; clear HO; intro w HO; (simp only [Act.put])) | ((with_reducible apply wpList_loadPart HO); exact rfl; exact rfl; (repeat (with_reducible (first | exact At.head _ | apply At.tail))); infer_instance; exact (Nat.le_of_ble_eq_true rfl); (simp only [List.drop_zero]; rfl); exact rfl; (simp only [Act.put, zA, zB, zC])) | ((with_reducible apply wpList_mapPut HO (kt := 29) (et := 160)); exact rfl; exact rfl; exact rfl; exact rfl; (repeat (with_reducible (first | exact At.head _ | apply At.tail))); exact keyKeyed; exact Tryz.underlying139; exact (by omega); exact keyOf_lit hk.out.1 hk.out.2; exact rfl; clear HO; intro w HO; (simp only [Act.put])))
            go_roundw
            case rel => exact ⟨j + 1, by omega, by go_num, by rw [HX.out]; exact HO.sub (by exact .cons _ (.cons_cons _ (.cons_cons _ (.cons_cons _ (.cons_cons _ (.cons_cons _ (List.Sublist.refl _)))))))⟩
            case measure => simp [intOf] <;> omega
          · obtain rfl : j = r1.length := by omega
            rw [List.take_length] at HO
            have HO0 := HO
            go_wp2_with fail
            rw [rounds_succ]
            clear HO0
            go_wp2_with (first | ((with_reducible apply wpList_indexArr (i := 2)); exact rfl; exact rfl; exact rfl; exact Tryz.underlying138; exact (by decide); infer_instance; (simp only [Nat.reduceMul, List.drop_succ_cons, List.drop_zero, List.take_succ_cons, List.take_zero]; rfl); exact rfl; (simp only [Act.put, zA, zB, zC])) | (first | go_big_skip | ((with_reducible apply wpList_loadAll HO); exact rfl; exact rfl; (repeat (with_reducible (first | exact At.head _ | apply At.tail))); infer_instance; exact rfl; exact rfl; (simp only [Act.put, zA, zB, zC])) | ((with_reducible apply wpList_loadOne HO); exact rfl; exact rfl; (repeat (with_reducible (first | exact At.head _ | apply At.tail))); exact rfl; infer_instance; exact rfl; (simp only [Act.put, zA, zB, zC]))) | ((with_reducible apply wpList_storeAll HO); exact rfl; exact rfl; exact rfl; (repeat (with_reducible (first | exact At.head _ | apply At.tail))); infer_instance; exact rfl; exact rfl; exact rfl; exact rfl; clear HO; intro w HO; (simp only [Act.put])) | ((with_reducible apply wpList_storePart HO); exact rfl; exact rfl; (first | (simp [Act.eval]; rfl) | exact rfl); exact rfl; (repeat (with_reducible (first | exact At.head _ | apply At.tail))); infer_instance; exact rfl; exact (by simp); (simp only [putL, List.drop_succ_cons, List.drop_zero, List.take_succ_cons, List.take_zero, List.length_cons, List.length_nil, List.cons_append, List.nil_append, List.append_nil, Nat.reduceAdd]; rfl); exact rfl; exact rfl; clear HO; intro w HO; (simp only [Act.put])) | ((with_reducible apply wpList_loadPart HO); exact rfl; exact rfl; (repeat (with_reducible (first | exact At.head _ | apply At.tail))); infer_instance; exact (Nat.le_of_ble_eq_true rfl); (simp only [List.drop_succ_cons, List.drop_zero, List.take_succ_cons, List.take_zero]; rfl); exact rfl; (simp only [Act.put, zA, zB, zC])) | (first | ((with_reducible apply wpList_boxAgg _ HO rfl); exact rfl; exact rfl; exact rfl; clear HO; intro b8 w HO; (simp only [Act.put, zA, zB, zC])) | ((with_reducible apply wpList_allocAgg _ HO rfl); exact rfl; infer_instance; exact rfl; clear HO; intro b8 w HO; (simp only [Act.put, zA, zB, zC]))))
            go_loopw [46] (fun i wr => ∃ j : Nat, j ≤ rs.length ∧ i = .int .i64 (j : Int) ∧ Own W wr [box b8 (.cells #[.int .i64 2, .int .i64 q, .slice su rs.length cu] 32), box b6 (.cells #[.int .i64 p0, .int .i64 q0, .slice s0 r0.length c0, .int .i64 p1, .int .i64 q1, .slice s1 r1.length c1, .int .i64 2, .int .i64 q, .slice su rs.length cu, .map (some b)] 141), mapE Tryz.prog 29 b ((r0.length + r1.length) + j) (putRows (fun _ => none) ((r0 ++ r1) ++ rs.take j)), box b4 (.cells #[.int .i64 0, .int .i64 0, .slice none 0 0, .int .i64 0, .int .i64 0, .slice none 0 0, .int .i64 0, .int .i64 0, .slice none 0 0, .map none] 141), row 160 5 (.slice su rs.length cu) (rs.map rowC)]) (fun i _ => rs.length - (intOf i).toNat)
            case atStart => exact ⟨0, by omega, rfl, by simpa using HO.sub (by exact .cons_cons _ (.cons _ (.cons_cons _ (.cons_cons _ (.cons_cons _ (.cons_cons _ (List.Sublist.refl _)))))))⟩
            case round =>
              clear HO
              obtain ⟨j, hj, rfl, HO⟩ := hrel
              by_cases hjl : j < rs.length
              · have hjI : (j : Int) < (rs.length : Int) := by omega
                obtain ⟨q9, c9, h9⟩ := (HO.rowForm (t := 160) (k := 5) (v := .slice su rs.length cu) (by (repeat (with_reducible (first | exact At.head _ | apply At.tail))))).2 (by rw [List.length_map]; omega)
                rw [List.length_map] at h9
                cases h9
                have HGJ := Lib.hid (show (rs.map rowC)[j]? = some (rowC rs[j]) by rw [List.getElem?_map, List.getElem?_eq_getElem hjl]; rfl)
                have hk := K2.out j hjl
                have HX := Lib.hid (rows_snoc (r0 ++ r1) rs hjl)
                generalize rs[j] = r at *
                obtain ⟨ro, rd, rc, ra, rq⟩ := r
                replace hk := Lib.hid hk
                go_wp2_with (first | (first | go_big_skip | ((with_reducible apply wpList_loadAll HO); exact rfl; exact rfl; (repeat (with_reducible (first | exact At.head _ | apply At.tail))); infer_instance; exact rfl; exact rfl; (simp only [Act.put, zA, zB, zC])) | ((with_reducible apply wpList_loadOne HO); exact rfl; exact rfl; (repeat (with_reducible (first | exact At.head _ | apply At.tail))); exact rfl; infer_instance; exact rfl; (simp only [Act.put, zA, zB, zC]))) | ((with_reducible apply wpList_loadAt HO); exact rfl; exact rfl; exact (fun w' h1 => h1.rowAt (by (repeat (with_reducible (first | exact At.head _ | apply At.tail)))) (rowC_len rs) HGJ.out); infer_instance; exact rfl; exact rfl; (simp only [Act.put, zA, zB, zC])) | (first | ((with_reducible apply wpList_boxAgg _ HO rfl); exact rfl; exact rfl; exact rfl; clear HO; intro b10 w HO; (simp only [Act.put, zA, zB, zC])) | ((with_reducible apply wpList_allocAgg _ HO rfl); exact rfl; infer_instance; exact rfl; clear HO; intro b10 w HO; (simp only [Act.put, zA, zB, zC]))) | ((with_reducible apply wpList_storeAll HO); exact rfl; exact rfl; exact rfl; (repeat (with_reducible (first | exact At.head _ | apply At.tail))); infer_instance; exact rfl; exact rfl; exact rfl; exact rfl; clear HO; intro w HO; (simp only [Act.put])) | ((with_reducible apply wpList_loadPart HO); exact rfl; exact rfl; (repeat (with_reducible (first | exact At.head _ | apply At.tail))); infer_instance; exact (Nat.le_of_ble_eq_true rfl); (simp only [List.drop_zero]; rfl); exact rfl; (simp only [Act.put, zA, zB, zC])) | ((with_reducible apply wpList_mapPut HO (kt := 29) (et := 160)); exact rfl; exact rfl; exact rfl; exact rfl; (repeat (with_reducible (first | exact At.head _ | apply At.tail))); exact keyKeyed; exact Tryz.underlying139; exact (by omega); exact keyOf_lit hk.out.1 hk.out.2; exact rfl; clear HO; intro w HO; (simp only [Act.put])))
                go_roundw
                case rel => exact ⟨j + 1, by omega, by go_num, by rw [HX.out]; exact HO.sub (by exact .cons _ (.cons_cons _ (.cons_cons _ (.cons_cons _ (.cons_cons _ (.cons_cons _ (List.Sublist.refl _)))))))⟩
                case measure => simp [intOf] <;> omega
              · obtain rfl : j = rs.length := by omega
                rw [List.take_length] at HO
                go_wp2_with fail
                rw [rounds_succ]
                go_wp2_with (first | (first | go_big_skip | ((with_reducible apply wpList_loadAll HO); exact rfl; exact rfl; (repeat (with_reducible (first | exact At.head _ | apply At.tail))); infer_instance; exact rfl; exact rfl; (simp only [Act.put, zA, zB, zC])) | ((with_reducible apply wpList_loadOne HO); exact rfl; exact rfl; (repeat (with_reducible (first | exact At.head _ | apply At.tail))); exact rfl; infer_instance; exact rfl; (simp only [Act.put, zA, zB, zC]))) | ((with_reducible apply wpList_storeAll HO); exact rfl; exact rfl; exact rfl; (repeat (with_reducible (first | exact At.head _ | apply At.tail))); infer_instance; exact rfl; exact rfl; exact rfl; exact rfl; clear HO; intro w HO; (simp only [Act.put])))
                refine bodyPost_ret (results_box HO rfl rfl (by (repeat (with_reducible (first | exact At.head _ | apply At.tail)))) inferInstance rfl rfl) rfl ?_
                exact HF.out _ _ _ _ _ (HO.sub (by exact .cons _ (.cons _ (.cons_cons _ (.cons _ (.cons_cons _ (List.Sublist.refl _))))))) ⟨_, _, rfl⟩ (by rw [List.append_assoc])
end Go.Proofs.YtibabfedpdoofaaGreatDoor

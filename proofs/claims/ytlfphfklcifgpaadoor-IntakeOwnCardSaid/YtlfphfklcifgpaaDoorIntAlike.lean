/-
  Whether an intake is the document's, and whether statements are too great, by walking the law's text; conditions: the rows lie in memory.
-/
import Derived.Test.YtlfphfklcifgpaaDoorIntRef
import Derived.Test.YtlfphfklcifgpaaDoorHeld3
namespace Go.Proofs.YtlfphfklcifgpaaDoor
open Go.RowKit Go.Own Go.Maps

set_option maxHeartbeats 8000000 in
set_option maxRecDepth 100000 in
theorem alike_any {W : World} {v0 v1 v2 m u0 u1 u2 : Value} (A B : InS) (h0 : IsRows W v0 A.r0) (h1 : IsRows W v1 A.r1) (h2 : IsRows W v2 A.r2) (g0 : IsRows W u0 B.r0) (g1 : IsRows W u1 B.r1) (g2 : IsRows W u2 B.r2) (hA : InOk A) (hm : m = .map none ∨ ∃ b, m = .map (some b)) :
    Calls Tryd.prog 17 #[.agg #[.int .i64 (A).p0, .int .i64 (A).q0, v0, .int .i64 (A).p1, .int .i64 (A).q1, v1, .int .i64 (A).p2, .int .i64 (A).q2, v2, m], .agg #[.int .i64 (B).p0, .int .i64 (B).q0, u0, .int .i64 (B).p1, .int .i64 (B).q1, u1, .int .i64 (B).p2, .int .i64 (B).q2, u2]] W fun e w' => e = .returned (.bool (sameI A B)) ∧ Below W.heap.size W w' := by
  have n0 := rows_len hA.1
  have n1 := rows_len hA.2.1
  have n2 := rows_len hA.2.2
  have N0 := fun w (hb : Below W.heap.size W w) => newest0_any A (h0.below hb h0.lt) (h1.below hb h1.lt) (h2.below hb h2.lt) (by omega) hm
  have N1 := fun w (hb : Below W.heap.size W w) => newest1_any A (h0.below hb h0.lt) (h1.below hb h1.lt) (h2.below hb h2.lt) (by omega) hm
  have N2 := fun w (hb : Below W.heap.size W w) => newest2_any A (h0.below hb h0.lt) (h1.below hb h1.lt) (h2.below hb h2.lt) (by omega) hm
  have S0 := fun {w : World} {v : Value} (h : IsRows w v A.r0) (hb : Below W.heap.size W w) => refSame_any A.p0 A.q0 B.p0 B.q0 h (g0.below hb g0.lt)
  have S1 := fun {w : World} {v : Value} (h : IsRows w v A.r1) (hb : Below W.heap.size W w) => refSame_any A.p1 A.q1 B.p1 B.q1 h (g1.below hb g1.lt)
  have S2 := fun {w : World} {v : Value} (h : IsRows w v A.r2) (hb : Below W.heap.size W w) => refSame_any A.p2 A.q2 B.p2 B.q2 h (g2.below hb g2.lt)
  have HQ := Lib.hid (show sameI A B = (sameStmt A.p0 A.q0 A.r0 B.p0 B.q0 B.r0 && (sameStmt A.p1 A.q1 A.r1 B.p1 B.q1 B.r1 && sameStmt A.p2 A.q2 A.r2 B.p2 B.q2 B.r2)) from rfl)
  obtain ⟨s0, c0, rfl, -⟩ := h0.slice
  obtain ⟨s1, c1, rfl, -⟩ := h1.slice
  obtain ⟨s2, c2, rfl, -⟩ := h2.slice
  obtain ⟨t0, d0, rfl, -⟩ := g0.slice
  obtain ⟨t1, d1, rfl, -⟩ := g1.slice
  obtain ⟨t2, d2, rfl, -⟩ := g2.slice
  generalize sameI A B = z at *
  generalize sameStmt A.p0 A.q0 A.r0 B.p0 B.q0 B.r0 = z0 at *
  generalize sameStmt A.p1 A.q1 A.r1 B.p1 B.q1 B.r1 = z1 at *
  generalize sameStmt A.p2 A.q2 A.r2 B.p2 B.q2 B.r2 = z2 at *
  have HO := Own.start W
  have hmm : ∃ x, m = .map x := by
    rcases hm with rfl | ⟨a, rfl⟩ <;> exact ⟨_, rfl⟩
  obtain ⟨mx, rfl⟩ := hmm
  clear h0 h1 h2 g0 g1 g2 hm n0 n1 n2 hA
  go_enter Tryd.func17, Tryd.ntmps17
  go_wp2_with (first | ((have _h : Own W _ (box _ _ :: _) := HO); clear _h; ((with_reducible apply wpList_boxAgg _ HO rfl); exact rfl; exact rfl; exact rfl; clear HO; intro b3 w HO; (simp only [Act.put, List.setIfInBounds_toArray, List.set_cons_succ, List.set_cons_zero]))) | ((with_reducible apply wpList_boxAgg _ HO rfl); exact rfl; exact rfl; exact rfl; clear HO; intro b2 w HO; (simp only [Act.put, List.setIfInBounds_toArray, List.set_cons_succ, List.set_cons_zero])) | (first | go_big_skip | ((with_reducible apply wpList_loadAll HO); exact rfl; exact rfl; (repeat (with_reducible (first | exact At.head _ | apply At.tail))); infer_instance; exact rfl; exact rfl; (simp only [Act.put, List.setIfInBounds_toArray, List.set_cons_succ, List.set_cons_zero])) | ((with_reducible apply wpList_loadOne HO); exact rfl; exact rfl; (repeat (with_reducible (first | exact At.head _ | apply At.tail))); exact rfl; infer_instance; exact rfl; (simp only [Act.put, List.setIfInBounds_toArray, List.set_cons_succ, List.set_cons_zero]))))
  refine wp_loop_rounds 4 ?_
  rw [rounds_succ]
  go_wp2_with fail
  refine region_sched2 ([box b3 (.cells #[.int .i64 B.p0, .int .i64 B.q0, .slice t0 B.r0.length d0, .int .i64 B.p1, .int .i64 B.q1, .slice t1 B.r1.length d1, .int .i64 B.p2, .int .i64 B.q2, .slice t2 B.r2.length d2] 34), box b2 (.cells #[.int .i64 A.p0, .int .i64 A.q0, .slice s0 A.r0.length c0, .int .i64 A.p1, .int .i64 A.q1, .slice s1 A.r1.length c1, .int .i64 A.p2, .int .i64 A.q2, .slice s2 A.r2.length c2, .map mx] 32)]) [(0, true), (1, true), (3, true), (4, true), (5, true), (6, true), (2, false), (7, false), (8, true)] HO (by with_reducible (repeat (first | exact List.nil_sublist _ | apply List.Sublist.cons_cons | apply List.Sublist.cons))) (by kernel_rfl) (by kernel_rfl) ?_
  clear HO
  intro w HO
  repeat (first | ((with_reducible apply wpSched_loadAll); exact rfl; exact rfl; exact rfl; (repeat (with_reducible (first | exact At.head _ | apply At.tail))); infer_instance; exact rfl; exact rfl; (simp only [Act.put, List.setIfInBounds_toArray, List.set_cons_succ, List.set_cons_zero])) | ((with_reducible apply wpSched_loadPart); exact rfl; exact rfl; (first | (simp [Act.eval]; rfl) | exact rfl); (repeat (with_reducible (first | exact At.head _ | apply At.tail))); infer_instance; exact (Nat.le_of_ble_eq_true rfl); (simp only [List.drop_succ_cons, List.drop_zero, List.take_succ_cons, List.take_zero]; rfl); exact rfl; (simp only [Act.put, List.setIfInBounds_toArray, List.set_cons_succ, List.set_cons_zero])) | ((with_reducible apply wpSched_pure); exact rfl; exact rfl; (intro w'; go_simp; try with_reducible rfl); (simp only [Act.put, List.setIfInBounds_toArray, List.set_cons_succ, List.set_cons_zero])))
  ((with_reducible apply wpSched_loud); exact rfl; go_wp2_with ((go_at_call 16; go_must ((with_reducible refine (N0 _ HO.grown).mono ?_); rintro e w ⟨p9, c9, rfl, HO1⟩; replace HO := HO.lift HO1; clear HO1; simp only [List.cons_append, List.nil_append] at HO))))
  refine thenQ_keep (HO.held (by with_reducible (repeat (first | exact List.nil_sublist _ | apply List.Sublist.cons_cons | apply List.Sublist.cons)))) ?_
  ((with_reducible apply wpSched_loud); exact rfl; go_wp2_with ((go_at_call 23; go_must ((with_reducible refine (S0 (ownRows HO (.head _)) HO.grown).mono ?_); rintro e w ⟨rfl, hb⟩; replace HO := HO.call hb; clear hb))))
  refine thenQ_free (by kernel_rfl) ?_
  ((with_reducible apply wpSched_pure); exact rfl; exact rfl; (intro w'; go_simp; try with_reducible rfl); (simp only [Act.put, List.setIfInBounds_toArray, List.set_cons_succ, List.set_cons_zero]))
  refine wpSched_end ?_
  cases z0
  · go_wp2_with fail
    go_ret
    exact ⟨by first | (rw [HQ.out]; done) | (rw [HQ.out]; rfl), HO.grown⟩
  · go_wp2_with fail
    rw [rounds_succ]
    go_wp2_with fail
    refine region_sched2 ([box b3 (.cells #[.int .i64 B.p0, .int .i64 B.q0, .slice t0 B.r0.length d0, .int .i64 B.p1, .int .i64 B.q1, .slice t1 B.r1.length d1, .int .i64 B.p2, .int .i64 B.q2, .slice t2 B.r2.length d2] 34), box b2 (.cells #[.int .i64 A.p0, .int .i64 A.q0, .slice s0 A.r0.length c0, .int .i64 A.p1, .int .i64 A.q1, .slice s1 A.r1.length c1, .int .i64 A.p2, .int .i64 A.q2, .slice s2 A.r2.length c2, .map mx] 32)]) [(0, true), (1, true), (3, true), (4, true), (5, true), (6, true), (2, false), (7, false), (8, true)] HO (by with_reducible (repeat (first | exact List.nil_sublist _ | apply List.Sublist.cons_cons | apply List.Sublist.cons))) (by kernel_rfl) (by kernel_rfl) ?_
    clear HO
    intro w HO
    repeat (first | ((with_reducible apply wpSched_loadAll); exact rfl; exact rfl; exact rfl; (repeat (with_reducible (first | exact At.head _ | apply At.tail))); infer_instance; exact rfl; exact rfl; (simp only [Act.put, List.setIfInBounds_toArray, List.set_cons_succ, List.set_cons_zero])) | ((with_reducible apply wpSched_loadPart); exact rfl; exact rfl; (first | (simp [Act.eval]; rfl) | exact rfl); (repeat (with_reducible (first | exact At.head _ | apply At.tail))); infer_instance; exact (Nat.le_of_ble_eq_true rfl); (simp only [List.drop_succ_cons, List.drop_zero, List.take_succ_cons, List.take_zero]; rfl); exact rfl; (simp only [Act.put, List.setIfInBounds_toArray, List.set_cons_succ, List.set_cons_zero])) | ((with_reducible apply wpSched_pure); exact rfl; exact rfl; (intro w'; go_simp; try with_reducible rfl); (simp only [Act.put, List.setIfInBounds_toArray, List.set_cons_succ, List.set_cons_zero])))
    ((with_reducible apply wpSched_loud); exact rfl; go_wp2_with ((go_at_call 16; go_must ((with_reducible refine (N1 _ HO.grown).mono ?_); rintro e w ⟨p9, c9, rfl, HO1⟩; replace HO := HO.lift HO1; clear HO1; simp only [List.cons_append, List.nil_append] at HO))))
    refine thenQ_keep (HO.held (by with_reducible (repeat (first | exact List.nil_sublist _ | apply List.Sublist.cons_cons | apply List.Sublist.cons)))) ?_
    ((with_reducible apply wpSched_loud); exact rfl; go_wp2_with ((go_at_call 23; go_must ((with_reducible refine (S1 (ownRows HO (.head _)) HO.grown).mono ?_); rintro e w ⟨rfl, hb⟩; replace HO := HO.call hb; clear hb))))
    refine thenQ_free (by kernel_rfl) ?_
    ((with_reducible apply wpSched_pure); exact rfl; exact rfl; (intro w'; go_simp; try with_reducible rfl); (simp only [Act.put, List.setIfInBounds_toArray, List.set_cons_succ, List.set_cons_zero]))
    refine wpSched_end ?_
    cases z1
    · go_wp2_with fail
      go_ret
      exact ⟨by first | (rw [HQ.out]; done) | (rw [HQ.out]; rfl), HO.grown⟩
    · go_wp2_with fail
      rw [rounds_succ]
      go_wp2_with fail
      refine region_sched2 ([box b3 (.cells #[.int .i64 B.p0, .int .i64 B.q0, .slice t0 B.r0.length d0, .int .i64 B.p1, .int .i64 B.q1, .slice t1 B.r1.length d1, .int .i64 B.p2, .int .i64 B.q2, .slice t2 B.r2.length d2] 34), box b2 (.cells #[.int .i64 A.p0, .int .i64 A.q0, .slice s0 A.r0.length c0, .int .i64 A.p1, .int .i64 A.q1, .slice s1 A.r1.length c1, .int .i64 A.p2, .int .i64 A.q2, .slice s2 A.r2.length c2, .map mx] 32)]) [(0, true), (1, true), (3, true), (4, true), (5, true), (6, true), (2, false), (7, false), (8, true)] HO (by with_reducible (repeat (first | exact List.nil_sublist _ | apply List.Sublist.cons_cons | apply List.Sublist.cons))) (by kernel_rfl) (by kernel_rfl) ?_
      clear HO
      intro w HO
      repeat (first | ((with_reducible apply wpSched_loadAll); exact rfl; exact rfl; exact rfl; (repeat (with_reducible (first | exact At.head _ | apply At.tail))); infer_instance; exact rfl; exact rfl; (simp only [Act.put, List.setIfInBounds_toArray, List.set_cons_succ, List.set_cons_zero])) | ((with_reducible apply wpSched_loadPart); exact rfl; exact rfl; (first | (simp [Act.eval]; rfl) | exact rfl); (repeat (with_reducible (first | exact At.head _ | apply At.tail))); infer_instance; exact (Nat.le_of_ble_eq_true rfl); (simp only [List.drop_succ_cons, List.drop_zero, List.take_succ_cons, List.take_zero]; rfl); exact rfl; (simp only [Act.put, List.setIfInBounds_toArray, List.set_cons_succ, List.set_cons_zero])) | ((with_reducible apply wpSched_pure); exact rfl; exact rfl; (intro w'; go_simp; try with_reducible rfl); (simp only [Act.put, List.setIfInBounds_toArray, List.set_cons_succ, List.set_cons_zero])))
      ((with_reducible apply wpSched_loud); exact rfl; go_wp2_with ((go_at_call 16; go_must ((with_reducible refine (N2 _ HO.grown).mono ?_); rintro e w ⟨p9, c9, rfl, HO1⟩; replace HO := HO.lift HO1; clear HO1; simp only [List.cons_append, List.nil_append] at HO))))
      refine thenQ_keep (HO.held (by with_reducible (repeat (first | exact List.nil_sublist _ | apply List.Sublist.cons_cons | apply List.Sublist.cons)))) ?_
      ((with_reducible apply wpSched_loud); exact rfl; go_wp2_with ((go_at_call 23; go_must ((with_reducible refine (S2 (ownRows HO (.head _)) HO.grown).mono ?_); rintro e w ⟨rfl, hb⟩; replace HO := HO.call hb; clear hb))))
      refine thenQ_free (by kernel_rfl) ?_
      ((with_reducible apply wpSched_pure); exact rfl; exact rfl; (intro w'; go_simp; try with_reducible rfl); (simp only [Act.put, List.setIfInBounds_toArray, List.set_cons_succ, List.set_cons_zero]))
      refine wpSched_end ?_
      cases z2
      · go_wp2_with fail
        go_ret
        exact ⟨by first | (rw [HQ.out]; done) | (rw [HQ.out]; rfl), HO.grown⟩
      · go_wp2_with fail
        rw [rounds_succ]
        go_wp2_with fail
        go_ret
        exact ⟨by first | (rw [HQ.out]; done) | (rw [HQ.out]; rfl), HO.grown⟩
/-- A statement as it came: its party, number, rows' slice, and rows. -/
structure StI where
  p : Int
  q : Int
  v : Value
  rs : List RowS
def stC (s : StI) : List Value := [.int .i64 s.p, .int .i64 s.q, s.v]
theorem stC_len (ss : List StI) : ∀ l ∈ ss.map stC, l.length = 3 := fun l hl => by obtain ⟨x, _, rfl⟩ := List.mem_map.1 hl; rfl
/-- Statements that came in. -/
structure IsSts (w : World) (v : Value) (ss : List StI) : Prop where
  l : IsL w 3 v (ss.map stC)
  r : ∀ s ∈ ss, IsRows w s.v s.rs
def greatS (ss : List StI) (most : Int) : Bool := ss.any (fun s => decide (60 < s.rs.length)) || decide (most < (ss.length : Int))
theorem greatS_no {ss : List StI} {most : Int} (h : greatS ss most = false) : (ss.length : Int) ≤ most ∧ ∀ s ∈ ss, s.rs.length ≤ 60 := by
  simp only [greatS, Bool.or_eq_false_iff, decide_eq_false_iff_not, List.any_eq_false, decide_eq_true_eq] at h
  exact ⟨by omega, fun s hs => by have := h.1 s hs; omega⟩

set_option maxHeartbeats 8000000 in
set_option maxRecDepth 100000 in
theorem great21_any {W : World} {v : Value} {ss : List StI} (most : Int) (h : IsSts W v ss) :
    Calls Tryd.prog 11 #[v, .int .i64 most] W fun e w' => e = .returned (.bool (greatS ss most)) ∧ Below W.heap.size W w' := by
  have HH := Lib.hid h
  obtain ⟨sp, sc, rfl, hmx⟩ := h.l.slice
  rw [List.length_map] at hmx ⊢
  have hmx' : (ss.length : Int) ≤ 9223372036854775807 := by unfold maxLen at hmx; omega
  have HO := Own.start W
  clear h
  go_enter Tryd.func11, Tryd.ntmps11
  go_wp2_with fail
  go_loopw [5] (fun i wr => ∃ j : Nat, j ≤ ss.length ∧ i = .int .i64 (j : Int) ∧ (ss.take j).any (fun s => decide (60 < s.rs.length)) = false ∧ Own W wr []) (fun i _ => ss.length - (intOf i).toNat)
  case atStart => exact ⟨0, by omega, rfl, rfl, HO⟩
  case round =>
    clear HO
    obtain ⟨j, hj, rfl, hf, HO⟩ := hrel
    have HF := Lib.hid hf
    clear hf
    by_cases hjl : j < ss.length
    · have hjI : (j : Int) < (ss.length : Int) := by omega
      obtain ⟨a, cap, h, _, _, hR⟩ := HH.out.l.at (by rw [List.length_map]; omega)
      rw [List.length_map] at h
      cases h
      have hrow := HH.out.r ss[j] (List.getElem_mem hjl)
      obtain ⟨tp, tc, hv, -⟩ := hrow.slice
      have HC := Lib.hid (show W.cell? ⟨(a.add (j * 3)).block, (a.add (j * 3)).off + 2, none⟩ = some (.slice tp ss[j].rs.length tc) from hR.cj j (by simpa using hjl) 1 _ (by simp [stC, hv]))
      have HCB := Lib.hid (show (⟨(a.add (j * 3)).block, (a.add (j * 3)).off + 2, none⟩ : Addr).block < W.heap.size from hR.lt' _)
      have HT := Lib.hid (show (ss.take (j + 1)).any (fun s => decide (60 < s.rs.length)) = ((ss.take j).any (fun s => decide (60 < s.rs.length)) || decide (60 < ss[j].rs.length)) by rw [List.take_succ_eq_append_getElem hjl, List.any_append]; simp)
      have HM := Lib.hid (List.getElem_mem hjl)
      clear hrow hv hR
      by_cases hg : 60 < ss[j].rs.length
      · have hg' : (60 : Int) < (ss[j].rs.length : Int) := by omega
        have HQ := Lib.hid (show greatS ss most = true by simp only [greatS, Bool.or_eq_true, List.any_eq_true]; exact .inl ⟨_, HM.out, by simpa using hg⟩)
        generalize ss[j].rs.length = n at *
        go_wp2_with (first | (first | go_big_skip | ((with_reducible apply wpList_loadAll HO); exact rfl; exact rfl; (repeat (with_reducible (first | exact At.head _ | apply At.tail))); infer_instance; exact rfl; exact rfl; (simp only [Act.put, List.setIfInBounds_toArray, List.set_cons_succ, List.set_cons_zero])) | ((with_reducible apply wpList_loadOne HO); exact rfl; exact rfl; (repeat (with_reducible (first | exact At.head _ | apply At.tail))); exact rfl; infer_instance; exact rfl; (simp only [Act.put, List.setIfInBounds_toArray, List.set_cons_succ, List.set_cons_zero]))) | ((with_reducible apply wpList_loadOld1 HO); exact rfl; exact rfl; exact HCB.out; exact HC.out; infer_instance; exact rfl; (simp only [Act.put, List.setIfInBounds_toArray, List.set_cons_succ, List.set_cons_zero])))
        go_ret
        exact ⟨by first | (rw [HQ.out]; done) | (rw [HQ.out]; rfl), HO.grown⟩
      · have hg' : decide ((60 : Int) < (ss[j].rs.length : Int)) = false := by simp; omega
        have HG := Lib.hid (show decide (60 < ss[j].rs.length) = false by simp; omega)
        clear HM
        generalize ss[j].rs.length = n at *
        go_wp2_with (first | (first | go_big_skip | ((with_reducible apply wpList_loadAll HO); exact rfl; exact rfl; (repeat (with_reducible (first | exact At.head _ | apply At.tail))); infer_instance; exact rfl; exact rfl; (simp only [Act.put, List.setIfInBounds_toArray, List.set_cons_succ, List.set_cons_zero])) | ((with_reducible apply wpList_loadOne HO); exact rfl; exact rfl; (repeat (with_reducible (first | exact At.head _ | apply At.tail))); exact rfl; infer_instance; exact rfl; (simp only [Act.put, List.setIfInBounds_toArray, List.set_cons_succ, List.set_cons_zero]))) | ((with_reducible apply wpList_loadOld1 HO); exact rfl; exact rfl; exact HCB.out; exact HC.out; infer_instance; exact rfl; (simp only [Act.put, List.setIfInBounds_toArray, List.set_cons_succ, List.set_cons_zero])))
        go_roundw
        case rel => exact ⟨j + 1, by omega, by go_num, by rw [HT.out, HF.out, HG.out]; rfl, HO⟩
        case measure => simp [intOf] <;> omega
    · obtain rfl : j = ss.length := by omega
      have HQ := Lib.hid (show greatS ss most = decide (most < (ss.length : Int)) by have := HF.out; rw [List.take_length] at this; simp [greatS, this])
      go_wp2_with fail
      go_ret
      exact ⟨by first | (rw [HQ.out]; done) | (rw [HQ.out]; rfl), HO.grown⟩
end Go.Proofs.YtlfphfklcifgpaaDoor

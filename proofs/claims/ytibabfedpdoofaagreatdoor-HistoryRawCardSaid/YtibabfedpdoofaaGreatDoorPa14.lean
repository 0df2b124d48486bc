/-
  Whether a line fits at the document's core, by walking its text; conditions: the core is one that entries come to, the next entry's rows lie in memory.
  Lines held against the entries of a journal, by walking the document's text; conditions: lines and entries lie in memory.
  The law HistoryRaw returns true, by walking its text; conditions: lines and entries lie in memory, the laid tables.
  From a walk of a law to its row: what every law shares, over any program; conditions: none.
  From a walk of a law to its row, where tables and the map of the deeds' words are laid; conditions: none.
-/
import Derived.Test.YtibabfedpdoofaaGreatDoorRows
import Derived.ProofKit
import Derived.OpenShut
import Derived.Deep.DeepHandedRow
import Derived.Lib.LaidTab
import Derived.Test.YtibabfedpdoofaaGreatDoorTie
import Derived.Test.YtibabfedpdoofaaGreatDoorCards
import Derived.SevenTiedAt
import Derived.WideKeyElems2
import Derived.Test.YtibabfedpdoofaaGreatDoorPa1
import Derived.Test.YtibabfedpdoofaaGreatDoorPa7
import Derived.Test.YtibabfedpdoofaaGreatDoorPa11
import Derived.Test.YtibabfedpdoofaaGreatDoorPa12
import Derived.Test.YtibabfedpdoofaaGreatDoorPa13
namespace Go.Proofs.YtibabfedpdoofaaGreatDoor
open Go.RowKit Go.Own Go.Maps

def rfitsB (S : CoS) (A : InS) (e : EntS) (more : Bool) (x : HisS) : Bool := if chgH x = true then more && chgdE S A e x else toldH S A x
theorem chg_kind {x : HisS} (h1 : x.k ≠ 1) (h2 : x.k ≠ 2) : chgH x = false := by
  unfold chgH
  rw [show (x.k == 1) = false by simpa using h1, show (x.k == 2) = false by simpa using h2]
  simp

set_option maxHeartbeats 16000000 in
set_option maxRecDepth 100000 in
theorem rFitsLook_any {W : World} {x : RcA} {S : CoS} {A : InS} {e : EntS} {ve : Value} (h : RcAt W x S A) (hl : S.L.length ≤ 60) (y : HisS) (hk : y.k = 3) (he : IsRows W ve e.rs) (more : Bool) : Calls Tryz.prog 122 #[.pointer (some ⟨x.r, 0, none⟩), .agg (rhC y).toArray, .agg #[.int .i64 (e).k, .int .i64 (e).id, .string ⟨(e).ref.toArray⟩, .string ⟨(e).sku.toArray⟩, .int .i64 (e).qty, .int .i64 (e).amt, .int .i64 (e).o, .int .i64 (e).d, .int .i64 (e).c, .int .i64 (e).p, .int .i64 (e).q, ve], .bool more] W fun e' w' => e' = .returned (.bool (rfitsB S A e more y)) ∧ Below W.heap.size W w' := by
  have HO := Own.start W
  obtain ⟨ep, ec, rfl, -⟩ := he.slice
  rw [show rfitsB S A e more y = ((y.err == (lookH S y.a).2.2) && sagaEqH y.so y.sd (lookH S y.a).1 (lookH S y.a).2.1) by unfold rfitsB; rw [chg_kind (by omega) (by omega)]; unfold toldH; simp [hk]]
  obtain ⟨p1, c1, e1, -⟩ := h.s.l.slice
  rw [List.length_map] at e1
  have h0 := old_cell h.box 0 rfl
  rw [e1] at h0
  have hlt := old_lt h.box
  have HR := Lib.hid (e1 ▸ h.s.l)
  have K0 := Lib.hid (fun (w' : World) (hb : Below W.heap.size W w') => show w'.cell? ⟨x.r, 0, none⟩ = some (.slice p1 S.L.length c1) by
    rw [hb.cell (p := ⟨x.r, 0, none⟩) hlt]; exact h0)
  have hln : (S.L.length : Int) ≤ 60 := by omega
  have HLK := Lib.hid (show lookH S y.a = match ordAt S.L y.a with | some y => (y.1, y.2, 0) | none => (zeroO, zeroD, 4) from rfl)
  clear h he e1
  have hk3 : (y.k == 3) = true := by simpa using hk
  clear hk
  unfold rhC
  by_cases g1 : 0 < y.a
  rotate_left
  · have hno := ordAt_no (L := S.L) (id := y.a) (.inl (by omega))
    rw [show lookH S y.a = (zeroO, zeroD, 4) by rw [HLK.out, hno]]
    have d1 : decide (0 < y.a) = false := decide_eq_false g1
    clear g1 hno HLK
    have RQ := fun w => run_sagaR_eql y.so zeroO y.sd zeroD w
    simp only [sagaL, zeroO, zeroD] at RQ ⊢
    generalize sagaEqH y.so y.sd ⟨0, [], [], 0, 0⟩ ⟨0, 0, 0, 0, 0, 0, false⟩ = B at *
    go_enter Tryz.func122, Tryz.ntmps122
    go_upto_region 3 with (first | (((with_reducible apply wpList_loadOne HO); exact rfl; exact rfl; (repeat (with_reducible (first | exact At.head _ | apply At.tail))); exact rfl; infer_instance; exact rfl; (simp only [Act.put, zA, zB, zC]))) | ((have _h : Own W _ (box _ _ :: box _ _ :: _) := HO); clear _h; (((with_reducible apply wpList_allocAgg _ HO rfl); exact rfl; infer_instance; exact rfl; clear HO; intro b9 w HO; (simp only [Act.put, zA, zB, zC])))) | ((have _h : Own W _ (box _ _ :: _) := HO); clear _h; (((with_reducible apply wpList_boxAgg _ HO rfl); exact rfl; exact rfl; exact rfl; clear HO; intro b6 w HO; (simp only [Act.put, zA, zB, zC])))) | (((with_reducible apply wpList_boxAgg _ HO rfl); exact rfl; exact rfl; exact rfl; clear HO; intro b5 w HO; (simp only [Act.put, zA, zB, zC]))) | ((with_reducible apply wpList_storeAll HO); exact rfl; exact rfl; exact rfl; (repeat (with_reducible (exact At.head _))); infer_instance; exact rfl; exact rfl; exact rfl; exact rfl; clear HO; intro w HO; (simp only [Act.put])))
    refine region_own HO (by kernel_rfl) (by kernel_rfl) ?_
    clear HO
    intro F HF
    repeat (first | (first | go_big_quiet_skip | (((with_reducible apply wpQuiet_loadOne HF); exact rfl; exact rfl; (repeat (with_reducible (first | exact At.head _ | apply At.tail))); exact rfl; infer_instance; exact rfl; (simp only [Act.put, zA, zB, zC])))) | go_big_quiet_step (fail))
    refine wpQuiet_nil ?_
    intro x
    have HO := HF.own x
    clear HF
    generalize F x = w at *
    clear x F
    cases hz : (y.err == 4)
    · go_wp2_with (first | go_big_skip | (((with_reducible apply wpList_loadOne HO); exact rfl; exact rfl; (repeat (with_reducible (first | exact At.head _ | apply At.tail))); exact rfl; infer_instance; exact rfl; (simp only [Act.put, zA, zB, zC]))))
      go_ret
      exact ⟨by simp [hz], HO.grown⟩
    · cases B
      · go_wp2_with (first | (first | ((with_reducible apply wpList_loadAll HO); exact rfl; exact rfl; (repeat (with_reducible (exact At.head _))); infer_instance; exact rfl; exact rfl; (simp only [Act.put, zA, zB, zC])) | ((with_reducible apply wpList_loadOne HO); exact rfl; exact rfl; (repeat (with_reducible (first | exact At.head _ | apply At.tail))); exact rfl; infer_instance; exact rfl; (simp only [Act.put, zA, zB, zC]))) | ((with_reducible apply wpList_loadPart HO); exact rfl; exact rfl; (repeat (with_reducible (first | exact At.head _ | apply At.tail))); infer_instance; exact (Nat.le_of_ble_eq_true rfl); (simp only [List.drop_succ_cons, List.drop_zero, List.take_succ_cons, List.take_zero]; rfl); exact rfl; (simp only [Act.put, zA, zB, zC])))
        go_ret
        exact ⟨by simp [hz], HO.grown⟩
      · go_wp2_with (first | (first | ((with_reducible apply wpList_loadAll HO); exact rfl; exact rfl; (repeat (with_reducible (exact At.head _))); infer_instance; exact rfl; exact rfl; (simp only [Act.put, zA, zB, zC])) | ((with_reducible apply wpList_loadOne HO); exact rfl; exact rfl; (repeat (with_reducible (first | exact At.head _ | apply At.tail))); exact rfl; infer_instance; exact rfl; (simp only [Act.put, zA, zB, zC]))) | ((with_reducible apply wpList_loadPart HO); exact rfl; exact rfl; (repeat (with_reducible (first | exact At.head _ | apply At.tail))); infer_instance; exact (Nat.le_of_ble_eq_true rfl); (simp only [List.drop_succ_cons, List.drop_zero, List.take_succ_cons, List.take_zero]; rfl); exact rfl; (simp only [Act.put, zA, zB, zC])))
        go_ret
        exact ⟨by simp [hz], HO.grown⟩
  by_cases g2 : y.a ≤ (S.L.length : Int)
  rotate_left
  · have hno := ordAt_no (L := S.L) (id := y.a) (.inr (by omega))
    rw [show lookH S y.a = (zeroO, zeroD, 4) by rw [HLK.out, hno]]
    have d1 : decide (0 < y.a) = true := decide_eq_true g1
    have d2 : decide (y.a ≤ (S.L.length : Int)) = false := decide_eq_false g2
    clear g1 g2 hno HLK
    have RQ := fun w => run_sagaR_eql y.so zeroO y.sd zeroD w
    simp only [sagaL, zeroO, zeroD] at RQ ⊢
    generalize sagaEqH y.so y.sd ⟨0, [], [], 0, 0⟩ ⟨0, 0, 0, 0, 0, 0, false⟩ = B at *
    go_enter Tryz.func122, Tryz.ntmps122
    go_upto_region 3 with (first | (((with_reducible apply wpList_loadOne HO); exact rfl; exact rfl; (repeat (with_reducible (first | exact At.head _ | apply At.tail))); exact rfl; infer_instance; exact rfl; (simp only [Act.put, zA, zB, zC]))) | ((have _h : Own W _ (box _ _ :: box _ _ :: _) := HO); clear _h; (((with_reducible apply wpList_allocAgg _ HO rfl); exact rfl; infer_instance; exact rfl; clear HO; intro b9 w HO; (simp only [Act.put, zA, zB, zC])))) | ((have _h : Own W _ (box _ _ :: _) := HO); clear _h; (((with_reducible apply wpList_boxAgg _ HO rfl); exact rfl; exact rfl; exact rfl; clear HO; intro b6 w HO; (simp only [Act.put, zA, zB, zC])))) | (((with_reducible apply wpList_boxAgg _ HO rfl); exact rfl; exact rfl; exact rfl; clear HO; intro b5 w HO; (simp only [Act.put, zA, zB, zC]))) | ((with_reducible apply wpList_storeAll HO); exact rfl; exact rfl; exact rfl; (repeat (with_reducible (exact At.head _))); infer_instance; exact rfl; exact rfl; exact rfl; exact rfl; clear HO; intro w HO; (simp only [Act.put])))
    refine region_own HO (by kernel_rfl) (by kernel_rfl) ?_
    clear HO
    intro F HF
    repeat (first | (first | ((with_reducible apply wpQuiet_loadOld1 HF); exact rfl; exact rfl; exact hlt; exact h0; infer_instance; exact rfl; (simp only [Act.put, zA, zB, zC])) | (((with_reducible apply wpQuiet_loadOne HF); exact rfl; exact rfl; (repeat (with_reducible (first | exact At.head _ | apply At.tail))); exact rfl; infer_instance; exact rfl; (simp only [Act.put, zA, zB, zC])))) | go_big_quiet_step (fail))
    refine wpQuiet_nil ?_
    intro x
    have HO := HF.own x
    clear HF
    generalize F x = w at *
    clear x F
    cases hz : (y.err == 4)
    · go_wp2_with (first | go_big_skip | (((with_reducible apply wpList_loadOne HO); exact rfl; exact rfl; (repeat (with_reducible (first | exact At.head _ | apply At.tail))); exact rfl; infer_instance; exact rfl; (simp only [Act.put, zA, zB, zC]))))
      go_ret
      exact ⟨by simp [hz], HO.grown⟩
    · cases B
      · go_wp2_with (first | (first | ((with_reducible apply wpList_loadAll HO); exact rfl; exact rfl; (repeat (with_reducible (exact At.head _))); infer_instance; exact rfl; exact rfl; (simp only [Act.put, zA, zB, zC])) | ((with_reducible apply wpList_loadOne HO); exact rfl; exact rfl; (repeat (with_reducible (first | exact At.head _ | apply At.tail))); exact rfl; infer_instance; exact rfl; (simp only [Act.put, zA, zB, zC]))) | ((with_reducible apply wpList_loadPart HO); exact rfl; exact rfl; (repeat (with_reducible (first | exact At.head _ | apply At.tail))); infer_instance; exact (Nat.le_of_ble_eq_true rfl); (simp only [List.drop_succ_cons, List.drop_zero, List.take_succ_cons, List.take_zero]; rfl); exact rfl; (simp only [Act.put, zA, zB, zC])))
        go_ret
        exact ⟨by simp [hz], HO.grown⟩
      · go_wp2_with (first | (first | ((with_reducible apply wpList_loadAll HO); exact rfl; exact rfl; (repeat (with_reducible (exact At.head _))); infer_instance; exact rfl; exact rfl; (simp only [Act.put, zA, zB, zC])) | ((with_reducible apply wpList_loadOne HO); exact rfl; exact rfl; (repeat (with_reducible (first | exact At.head _ | apply At.tail))); exact rfl; infer_instance; exact rfl; (simp only [Act.put, zA, zB, zC]))) | ((with_reducible apply wpList_loadPart HO); exact rfl; exact rfl; (repeat (with_reducible (first | exact At.head _ | apply At.tail))); infer_instance; exact (Nat.le_of_ble_eq_true rfl); (simp only [List.drop_succ_cons, List.drop_zero, List.take_succ_cons, List.take_zero]; rfl); exact rfl; (simp only [Act.put, zA, zB, zC])))
        go_ret
        exact ⟨by simp [hz], HO.grown⟩
  · obtain ⟨j, hj⟩ : ∃ j : Nat, y.a = (j : Int) + 1 := ⟨(y.a - 1).toNat, by omega⟩
    have hjl : j < S.L.length := by omega
    have hyes : ordAt S.L y.a = some S.L[j] := by
      unfold ordAt
      rw [if_pos (by omega), show (y.a - 1).toNat = j by omega, List.getElem?_eq_getElem hjl]
    rw [show lookH S y.a = (S.L[j].1, S.L[j].2, 0) by rw [HLK.out, hyes]]
    have d1 : decide (0 < y.a) = true := decide_eq_true g1
    have d2 : decide (y.a ≤ (S.L.length : Int)) = true := decide_eq_true g2
    have hw : IntKind.i64.wrap (y.a - 1) = (j : Int) := by rw [hj, show (j : Int) + 1 - 1 = (j : Int) by omega]; exact wrap_n _ (by omega)
    obtain ⟨q, rfl⟩ : ∃ q, p1 = some q := by
      obtain ⟨q, c', h, -⟩ := HR.out.at (by rw [List.length_map]; omega)
      rw [List.length_map] at h
      cases h
      exact ⟨q, rfl⟩
    have hst := isL_cell HR.out (j := j) (by simpa using hjl)
    rw [List.getElem_map] at hst
    have hqb : ∀ i, (q.add i).block < W.heap.size := fun i => by rw [lBlock]; exact HR.out.lt _ _ _ rfl (by omega)
    have HST := Lib.hid (fun (w' : World) (hb : Below W.heap.size W w') (i : Nat) (u : Value) (hu : (sagaL S.L[j])[i]? = some u) => show w'.cell? ((q.add (j * 12)).add i) = some u by
      rw [hb.cell (by rw [lBlock, lBlock]; exact HR.out.lt _ _ _ rfl (by omega))]
      exact hst i u hu)
    have hjI : (j : Int) < (S.L.length : Int) := by omega
    clear g1 g2 hj hyes HLK hst hqb HR
    generalize S.L[j] = z at *
    obtain ⟨zo, zd⟩ := z
    have RQ := fun w => run_sagaR_eql y.so zo y.sd zd w
    simp only [sagaL] at RQ HST ⊢
    generalize sagaEqH y.so y.sd zo zd = B at *
    go_enter Tryz.func122, Tryz.ntmps122
    go_upto_region 3 with (first | (((with_reducible apply wpList_loadOne HO); exact rfl; exact rfl; (repeat (with_reducible (first | exact At.head _ | apply At.tail))); exact rfl; infer_instance; exact rfl; (simp only [Act.put, zA, zB, zC]))) | ((have _h : Own W _ (box _ _ :: box _ _ :: _) := HO); clear _h; (((with_reducible apply wpList_allocAgg _ HO rfl); exact rfl; infer_instance; exact rfl; clear HO; intro b9 w HO; (simp only [Act.put, zA, zB, zC])))) | ((have _h : Own W _ (box _ _ :: _) := HO); clear _h; (((with_reducible apply wpList_boxAgg _ HO rfl); exact rfl; exact rfl; exact rfl; clear HO; intro b6 w HO; (simp only [Act.put, zA, zB, zC])))) | (((with_reducible apply wpList_boxAgg _ HO rfl); exact rfl; exact rfl; exact rfl; clear HO; intro b5 w HO; (simp only [Act.put, zA, zB, zC]))) | ((with_reducible apply wpList_storeAll HO); exact rfl; exact rfl; exact rfl; (repeat (with_reducible (exact At.head _))); infer_instance; exact rfl; exact rfl; exact rfl; exact rfl; clear HO; intro w HO; (simp only [Act.put])))
    refine region_own HO (by kernel_rfl) (by kernel_rfl) ?_
    clear HO
    intro F HF
    repeat (first | (first | ((with_reducible apply wpQuiet_loadOld1 HF); exact rfl; exact rfl; exact hlt; exact h0; infer_instance; exact rfl; (simp only [Act.put, zA, zB, zC])) | (((with_reducible apply wpQuiet_loadOne HF); exact rfl; exact rfl; (repeat (with_reducible (first | exact At.head _ | apply At.tail))); exact rfl; infer_instance; exact rfl; (simp only [Act.put, zA, zB, zC])))) | go_big_quiet_step (fail))
    refine wpQuiet_nil ?_
    intro x
    have HO := HF.own x
    clear HF
    generalize F x = w at *
    clear x F
    go_upto_region 4 with fail
    refine region_schedO ([box b5 (.cells #[.int .i64 y.k, .int .i64 y.a, .int .i64 y.b, .int .i64 y.o.id, .string ⟨y.o.ref.toArray⟩, .string ⟨y.o.sku.toArray⟩, .int .i64 y.o.qty, .int .i64 y.o.amt, .int .i64 y.err, .int .i64 y.id, .int .i64 y.amt, .int .i64 y.so.id, .string ⟨y.so.ref.toArray⟩, .string ⟨y.so.sku.toArray⟩, .int .i64 y.so.qty, .int .i64 y.so.amt, .int .i64 y.sd.a, .int .i64 y.sd.b, .int .i64 y.sd.c, .int .i64 y.sd.d, .int .i64 y.sd.e, .int .i64 y.sd.f, .bool y.sd.x] 126)]) [(0, true), (1, true), (2, true), (3, true), (4, true), (5, true), (6, true), (7, true), (8, true), (9, false), (10, true)] HO (by with_reducible (repeat (first | exact List.nil_sublist _ | apply List.Sublist.cons_cons | apply List.Sublist.cons))) (by kernel_rfl) (by kernel_rfl) ?_
    clear HO
    intro w HO
    repeat (first | ((with_reducible apply wpHeld_loadAt1); exact rfl; exact rfl; exact rfl; exact (fun w' hw => K0.out w' (hw _ List.mem_cons_self)); infer_instance; exact rfl; (simp only [Act.put, zA, zB, zC])) | ((with_reducible apply wpHeld_loadOne); exact rfl; exact rfl; exact rfl; (repeat (with_reducible (first | exact At.head _ | apply At.tail))); exact rfl; infer_instance; exact rfl; (simp only [Act.put, zA, zB, zC])) | ((with_reducible apply wpHeld_loadAt); exact rfl; exact rfl; exact rfl; exact (fun w' hw => HST.out w' (hw _ List.mem_cons_self)); infer_instance; exact rfl; exact rfl; (simp only [Act.put, zA, zB, zC])) | ((with_reducible apply wpHeld_pure); exact rfl; exact rfl; (intro w'; go_simp; try with_reducible rfl); (simp only [Act.put, zA, zB, zC])))
    ((with_reducible apply wpHeld_loud); exact rfl; ((with_reducible apply wpList_storeAll HO); exact rfl; exact rfl; exact rfl; (repeat (with_reducible (exact At.head _))); infer_instance; exact rfl; exact rfl; exact rfl; exact rfl; clear HO; intro w HO; (simp only [Act.put])))
    refine wpList_nil ⟨HO.heldO (by with_reducible (repeat (first | exact List.nil_sublist _ | apply List.Sublist.cons_cons | apply List.Sublist.cons))), ?_⟩
    ((with_reducible apply wpHeld_pure); exact rfl; exact rfl; (intro w'; go_simp; try with_reducible rfl); (simp only [Act.put, zA, zB, zC]))
    refine wpHeld_end ?_
    cases hz : (y.err == 0)
    · go_wp2_with (first | go_big_skip | (((with_reducible apply wpList_loadOne HO); exact rfl; exact rfl; (repeat (with_reducible (first | exact At.head _ | apply At.tail))); exact rfl; infer_instance; exact rfl; (simp only [Act.put, zA, zB, zC]))))
      go_ret
      exact ⟨by simp [hz], HO.grown⟩
    · cases B
      · go_wp2_with (first | (first | ((with_reducible apply wpList_loadAll HO); exact rfl; exact rfl; (repeat (with_reducible (exact At.head _))); infer_instance; exact rfl; exact rfl; (simp only [Act.put, zA, zB, zC])) | ((with_reducible apply wpList_loadOne HO); exact rfl; exact rfl; (repeat (with_reducible (first | exact At.head _ | apply At.tail))); exact rfl; infer_instance; exact rfl; (simp only [Act.put, zA, zB, zC]))) | ((with_reducible apply wpList_loadPart HO); exact rfl; exact rfl; (repeat (with_reducible (first | exact At.head _ | apply At.tail))); infer_instance; exact (Nat.le_of_ble_eq_true rfl); (simp only [List.drop_succ_cons, List.drop_zero, List.take_succ_cons, List.take_zero]; rfl); exact rfl; (simp only [Act.put, zA, zB, zC])))
        go_ret
        exact ⟨by simp [hz], HO.grown⟩
      · go_wp2_with (first | (first | ((with_reducible apply wpList_loadAll HO); exact rfl; exact rfl; (repeat (with_reducible (exact At.head _))); infer_instance; exact rfl; exact rfl; (simp only [Act.put, zA, zB, zC])) | ((with_reducible apply wpList_loadOne HO); exact rfl; exact rfl; (repeat (with_reducible (first | exact At.head _ | apply At.tail))); exact rfl; infer_instance; exact rfl; (simp only [Act.put, zA, zB, zC]))) | ((with_reducible apply wpList_loadPart HO); exact rfl; exact rfl; (repeat (with_reducible (first | exact At.head _ | apply At.tail))); infer_instance; exact (Nat.le_of_ble_eq_true rfl); (simp only [List.drop_succ_cons, List.drop_zero, List.take_succ_cons, List.take_zero]; rfl); exact rfl; (simp only [Act.put, zA, zB, zC])))
        go_ret
        exact ⟨by simp [hz], HO.grown⟩

set_option maxHeartbeats 16000000 in
set_option maxRecDepth 100000 in
theorem rFitsBal_any {W : World} {x : RcA} {S : CoS} {A : InS} {e : EntS} {ve : Value} (h : RcAt W x S A) (hI : CoInv S A) (hlen : S.P.length ≤ 99000) (y : HisS) (hk : y.k = 4) (he : IsRows W ve e.rs) (more : Bool) : Calls Tryz.prog 122 #[.pointer (some ⟨x.r, 0, none⟩), .agg (rhC y).toArray, .agg #[.int .i64 (e).k, .int .i64 (e).id, .string ⟨(e).ref.toArray⟩, .string ⟨(e).sku.toArray⟩, .int .i64 (e).qty, .int .i64 (e).amt, .int .i64 (e).o, .int .i64 (e).d, .int .i64 (e).c, .int .i64 (e).p, .int .i64 (e).q, ve], .bool more] W fun e' w' => e' = .returned (.bool (rfitsB S A e more y)) ∧ Below W.heap.size W w' := by
  have HO := Own.start W
  obtain ⟨ep, ec, rfl, -⟩ := he.slice
  rw [show rfitsB S A e more y = ((y.err == 0) && (y.amt == bal S.P y.a y.b)) by unfold rfitsB; rw [chg_kind (by omega) (by omega)]; unfold toldH; simp [hk]]
  have BL := Lib.hid (fun (w : World) (hb : Below W.heap.size W w) => rcBal_any (h.below hb) hI.small (by omega) y.a y.b)
  generalize bal S.P y.a y.b = bl at *
  have hk4 : (y.k == 4) = true := by simpa using hk
  have hk3 : (y.k == 3) = false := by rw [hk]; rfl
  clear h hI hlen he hk
  unfold rhC
  cases hz : (y.err == 0)
  · go_enter Tryz.func122, Tryz.ntmps122
    go_upto_region 7 with (first | (((with_reducible apply wpList_loadOne HO); exact rfl; exact rfl; (repeat (with_reducible (first | exact At.head _ | apply At.tail))); exact rfl; infer_instance; exact rfl; (simp only [Act.put, zA, zB, zC]))) | ((have _h : Own W _ (box _ _ :: _) := HO); clear _h; (((with_reducible apply wpList_boxAgg _ HO rfl); exact rfl; exact rfl; exact rfl; clear HO; intro b6 w HO; (simp only [Act.put, zA, zB, zC])))) | (((with_reducible apply wpList_boxAgg _ HO rfl); exact rfl; exact rfl; exact rfl; clear HO; intro b5 w HO; (simp only [Act.put, zA, zB, zC]))))
    refine region_own HO (by kernel_rfl) (by kernel_rfl) ?_
    clear HO
    intro F HF
    repeat (first | (first | go_big_quiet_skip | (((with_reducible apply wpQuiet_loadOne HF); exact rfl; exact rfl; (repeat (with_reducible (first | exact At.head _ | apply At.tail))); exact rfl; infer_instance; exact rfl; (simp only [Act.put, zA, zB, zC])))) | go_big_quiet_step (fail))
    refine wpQuiet_nil ?_
    intro x
    have HO := HF.own x
    clear HF
    generalize F x = w at *
    clear x F
    go_wp2_with fail
    go_ret
    exact ⟨by simp, HO.grown⟩
  · go_enter Tryz.func122, Tryz.ntmps122
    go_upto_region 7 with (first | (((with_reducible apply wpList_loadOne HO); exact rfl; exact rfl; (repeat (with_reducible (first | exact At.head _ | apply At.tail))); exact rfl; infer_instance; exact rfl; (simp only [Act.put, zA, zB, zC]))) | ((have _h : Own W _ (box _ _ :: _) := HO); clear _h; (((with_reducible apply wpList_boxAgg _ HO rfl); exact rfl; exact rfl; exact rfl; clear HO; intro b6 w HO; (simp only [Act.put, zA, zB, zC])))) | (((with_reducible apply wpList_boxAgg _ HO rfl); exact rfl; exact rfl; exact rfl; clear HO; intro b5 w HO; (simp only [Act.put, zA, zB, zC]))))
    refine region_sched ([box b5 (.cells #[.int .i64 y.k, .int .i64 y.a, .int .i64 y.b, .int .i64 y.o.id, .string ⟨y.o.ref.toArray⟩, .string ⟨y.o.sku.toArray⟩, .int .i64 y.o.qty, .int .i64 y.o.amt, .int .i64 y.err, .int .i64 y.id, .int .i64 y.amt, .int .i64 y.so.id, .string ⟨y.so.ref.toArray⟩, .string ⟨y.so.sku.toArray⟩, .int .i64 y.so.qty, .int .i64 y.so.amt, .int .i64 y.sd.a, .int .i64 y.sd.b, .int .i64 y.sd.c, .int .i64 y.sd.d, .int .i64 y.sd.e, .int .i64 y.sd.f, .bool y.sd.x] 126)]) [(0, true), (1, true), (2, true), (3, true), (4, true), (5, true), (6, true), (7, true), (8, true), (9, true), (10, true), (11, false), (12, true), (13, true), (14, true)] HO (by with_reducible (repeat (first | exact List.nil_sublist _ | apply List.Sublist.cons_cons | apply List.Sublist.cons))) (by kernel_rfl) (by kernel_rfl) ?_
    clear HO
    intro w HO
    repeat (first | ((with_reducible apply wpHeld_loadOne); exact rfl; exact rfl; exact rfl; (repeat (with_reducible (exact At.head _))); exact rfl; infer_instance; exact rfl; (simp only [Act.put, zA, zB, zC])) | ((with_reducible apply wpHeld_pure); exact rfl; exact rfl; (intro w'; go_simp; try with_reducible rfl); (simp only [Act.put, zA, zB, zC])))
    ((with_reducible apply wpHeld_loud); exact rfl; go_wp2_with ((go_at_call 95; go_must ((with_reducible refine (BL.out _ HO.grown).mono ?_); rintro e w ⟨rfl, hb⟩; replace HO := HO.call hb; clear hb))))
    refine ⟨HO.held (by with_reducible (repeat (first | exact List.nil_sublist _ | apply List.Sublist.cons_cons | apply List.Sublist.cons))), ?_⟩
    repeat ((with_reducible apply wpHeld_pure); exact rfl; exact rfl; (intro w'; go_simp; try with_reducible rfl); (simp only [Act.put, zA, zB, zC]))
    refine wpHeld_end ?_
    go_wp2_with fail
    go_ret
    exact ⟨by simp, HO.grown⟩

set_option maxHeartbeats 16000000 in
set_option maxRecDepth 100000 in
theorem rFitsChg_any {W : World} {x : RcA} {S : CoS} {A : InS} {e : EntS} {ve : Value} (h : RcAt W x S A) (hI : CoInv S A) (hids : idsOk S.L) (hlen : S.P.length ≤ 99000) (y : HisS) (hk : y.k = 1 ∨ y.k = 2) (l1 : y.o.ref.length ≤ maxLen) (l2 : y.o.sku.length ≤ maxLen) (l3 : inI y.a = true) (he : IsRows W ve e.rs) (more : Bool) : Calls Tryz.prog 122 #[.pointer (some ⟨x.r, 0, none⟩), .agg (rhC y).toArray, .agg #[.int .i64 (e).k, .int .i64 (e).id, .string ⟨(e).ref.toArray⟩, .string ⟨(e).sku.toArray⟩, .int .i64 (e).qty, .int .i64 (e).amt, .int .i64 (e).o, .int .i64 (e).d, .int .i64 (e).c, .int .i64 (e).p, .int .i64 (e).q, ve], .bool more] W fun e' w' => e' = .returned (.bool (rfitsB S A e more y)) ∧ Below W.heap.size W w' := by
  have HO := Own.start W
  have hl := hI.ok.len
  obtain ⟨f1, f2, f3, f4, f5⟩ := entH_facts S.L.length y l1 l2 l3
  have hrs : IsRows W (.slice none 0 0) (entH S.L.length y).rs := by rw [f5]; exact .none _ _ (fun _ => rfl)
  obtain ⟨ep, ec, rfl, -⟩ := he.slice
  have HRF := Lib.hid (show rfitsB S A e more y = if ((y.err == 0) && (y.k == 1 || y.k == 2)) = true then more && (sameE e (entH S.L.length y) && (applyE S A (entH S.L.length y) == 0) && (!(y.k == 1) || (y.id == (entH S.L.length y).id))) else ((y.id == 0) && (applyE S A (entH S.L.length y) == y.err)) by
    have n3 : ¬ y.k = 3 := by omega
    have n4 : ¬ y.k = 4 := by omega
    unfold rfitsB chgH chgdE toldH
    rw [if_neg n3, if_neg n4])
  have HCH := Lib.hid (show changesH y = (y.err == 0) by
    unfold changesH
    rw [decide_eq_true (show y.k < 3 by omega), Bool.true_and])
  have CP := Lib.hid (fun (w : World) (hb : Below W.heap.size W w) => rcCopy_any (h.below hb))
  have EN := Lib.hid (fun (w : World) (hb : Below W.heap.size W w) => rEntry_any (h.below hb) hl y)
  have AP := Lib.hid (fun (w : World) (c : Nat) (M : List Ent) (HO : Own W w (rcB { x with r := c } A :: M)) => rcApply_any (G := []) (entH S.L.length y) HO (fun w' hb _ => (h.below hb).s.re c) (fun e he => by cases he) ⟨.old hrs [], f2, f3, f4⟩ hI hids hlen)
  have CG := fun w => changes_any y w
  rw [HCH.out] at CG
  have SM := Lib.hid (fun (w : World) (hb : Below W.heap.size W w) => refEntSame_any e (entH S.L.length y) (he.below hb he.lt) (hrs.below hb hrs.lt))
  generalize rfitsB S A e more y = R at *
  generalize sameE e (entH S.L.length y) = B1 at *
  generalize applyE S A (entH S.L.length y) = ev at *
  generalize applyS S A (entH S.L.length y) = S1 at *
  generalize applyI A (entH S.L.length y) = A1 at *
  generalize entH S.L.length y = Y at *
  have hk12 : (y.k == 1 || y.k == 2) = true := by simpa using hk
  have hk4 : (y.k == 4) = false := by simp; omega
  have hk3 : (y.k == 3) = false := by simp; omega
  have hkx : (y.k == 1) = !(y.k == 2) := by rcases hk with h | h <;> rw [h] <;> rfl
  replace hk12 := Lib.hid hk12
  replace hkx := Lib.hid hkx
  clear h hI hlen he hk hrs f1 f2 f3 f4 f5 HCH hids l1 l2 l3 hl
  unfold rhC at *
  cases hz : (y.err == 0)
  · rw [hz] at CG
    rw [hz, Bool.false_and, if_neg (by simp)] at HRF
    clear SM hk12 hkx
    go_enter Tryz.func122, Tryz.ntmps122
    go_upto_region 9 with (first | (first | ((with_reducible apply wpList_loadAll HO); exact rfl; exact rfl; (repeat (with_reducible (first | exact At.head _ | apply At.tail))); infer_instance; exact rfl; exact rfl; (simp only [Act.put, zA, zB, zC])) | ((with_reducible apply wpList_loadOne HO); exact rfl; exact rfl; (repeat (with_reducible (first | exact At.head _ | apply At.tail))); exact rfl; infer_instance; exact rfl; (simp only [Act.put, zA, zB, zC]))) | ((have _h : Own W _ (box _ _ :: box _ _ :: _) := HO); clear _h; (((with_reducible apply wpList_allocAgg _ HO rfl); exact rfl; infer_instance; exact rfl; clear HO; intro b11 w HO; (simp only [Act.put, zA, zB, zC])))) | ((have _h : Own W _ (box _ _ :: _) := HO); clear _h; (((with_reducible apply wpList_boxAgg _ HO rfl); exact rfl; exact rfl; exact rfl; clear HO; intro b6 w HO; (simp only [Act.put, zA, zB, zC])))) | (((with_reducible apply wpList_boxAgg _ HO rfl); exact rfl; exact rfl; exact rfl; clear HO; intro b5 w HO; (simp only [Act.put, zA, zB, zC]))) | ((with_reducible apply wpList_storeAll HO); exact rfl; exact rfl; exact rfl; (repeat (with_reducible (exact At.head _))); infer_instance; exact rfl; exact rfl; exact rfl; exact rfl; clear HO; intro w HO; (simp only [Act.put])) | (go_at_call 151; go_must ((with_reducible refine (EN.out _ HO.grown).mono ?_); rintro e w ⟨rfl, hb⟩; replace HO := HO.call hb; clear hb)))
    refine region_sched ([box b11 (.cells #[.int .i64 Y.k, .int .i64 Y.id, .string ⟨Y.ref.toArray⟩, .string ⟨Y.sku.toArray⟩, .int .i64 Y.qty, .int .i64 Y.amt, .int .i64 Y.o, .int .i64 Y.d, .int .i64 Y.c, .int .i64 Y.p, .int .i64 Y.q, .slice none 0 0] 34)]) [(0, true), (2, true), (1, false), (3, false), (4, true)] HO (by with_reducible (repeat (first | exact List.nil_sublist _ | apply List.Sublist.cons_cons))) (by kernel_rfl) (by kernel_rfl) ?_
    clear HO
    intro w HO
    repeat (first | ((with_reducible apply wpHeld_loadAll); exact rfl; exact rfl; exact rfl; (repeat (with_reducible (exact At.head _))); infer_instance; exact rfl; exact rfl; (simp only [Act.put, zA, zB, zC])) | ((with_reducible apply wpHeld_pure); exact rfl; exact rfl; (intro w'; go_simp; try with_reducible rfl); (simp only [Act.put, zA, zB, zC])))
    ((with_reducible apply wpHeld_loud); exact rfl; go_wp2_with ((go_at_call 152; go_must ((with_reducible refine (CP.out _ HO.grown).mono ?_); rintro e w ⟨c1, rfl, HO1⟩; replace HO := HO.lift HO1; clear HO1; simp only [List.cons_append, List.nil_append] at HO))))
    refine ⟨HO.held (by with_reducible (repeat (first | exact List.nil_sublist _ | apply List.Sublist.cons_cons | apply List.Sublist.cons))), ?_⟩
    ((with_reducible apply wpHeld_loud); exact rfl; go_wp2_with ((go_at_call 28; go_must ((with_reducible refine (AP.out _ c1 _ HO).mono ?_); clear HO; rintro e w ⟨rfl, x9, N9, -, HO, -⟩))))
    replace HO := HO.sub ((List.sublist_append_right N9 _).cons _)
    refine ⟨HO.held (by with_reducible (repeat (first | exact List.nil_sublist _ | apply List.Sublist.cons_cons))), ?_⟩
    repeat ((with_reducible apply wpHeld_pure); exact rfl; exact rfl; (intro w'; go_simp; try with_reducible rfl); (simp only [Act.put, zA, zB, zC]))
    refine wpHeld_end ?_
    cases hq : (ev == y.err)
    · go_wp2_with (first | go_big_skip | (first | ((with_reducible apply wpList_loadAll HO); exact rfl; exact rfl; (repeat (with_reducible (first | exact At.head _ | apply At.tail))); infer_instance; exact rfl; exact rfl; (simp only [Act.put, zA, zB, zC])) | ((with_reducible apply wpList_loadOne HO); exact rfl; exact rfl; (repeat (with_reducible (first | exact At.head _ | apply At.tail))); exact rfl; infer_instance; exact rfl; (simp only [Act.put, zA, zB, zC]))) | (go_at_call 123; go_must ((with_reducible refine (CG _).mono ?_); rintro e w ⟨rfl, hb⟩; replace HO := HO.call hb; clear hb)))
      go_ret
      exact ⟨by rw [HRF.out, hq]; simp, HO.grown⟩
    · cases hi : (y.id == 0)
      · go_wp2_with (first | (first | ((with_reducible apply wpList_loadAll HO); exact rfl; exact rfl; (repeat (with_reducible (first | exact At.head _ | apply At.tail))); infer_instance; exact rfl; exact rfl; (simp only [Act.put, zA, zB, zC])) | ((with_reducible apply wpList_loadOne HO); exact rfl; exact rfl; (repeat (with_reducible (first | exact At.head _ | apply At.tail))); exact rfl; infer_instance; exact rfl; (simp only [Act.put, zA, zB, zC]))) | (go_at_call 123; go_must ((with_reducible refine (CG _).mono ?_); rintro e w ⟨rfl, hb⟩; replace HO := HO.call hb; clear hb)))
        go_ret
        exact ⟨by rw [HRF.out, hq, hi]; rfl, HO.grown⟩
      · go_wp2_with (first | (first | ((with_reducible apply wpList_loadAll HO); exact rfl; exact rfl; (repeat (with_reducible (first | exact At.head _ | apply At.tail))); infer_instance; exact rfl; exact rfl; (simp only [Act.put, zA, zB, zC])) | ((with_reducible apply wpList_loadOne HO); exact rfl; exact rfl; (repeat (with_reducible (first | exact At.head _ | apply At.tail))); exact rfl; infer_instance; exact rfl; (simp only [Act.put, zA, zB, zC]))) | (go_at_call 123; go_must ((with_reducible refine (CG _).mono ?_); rintro e w ⟨rfl, hb⟩; replace HO := HO.call hb; clear hb)))
        go_ret
        exact ⟨by rw [HRF.out, hq, hi]; rfl, HO.grown⟩
  · rw [hz] at CG
    rw [hz, hk12.out, Bool.true_and, if_pos rfl] at HRF
    cases more with
    | false =>
      clear SM hk12 hkx
      go_enter Tryz.func122, Tryz.ntmps122
      go_upto_region 9 with (first | (first | ((with_reducible apply wpList_loadAll HO); exact rfl; exact rfl; (repeat (with_reducible (first | exact At.head _ | apply At.tail))); infer_instance; exact rfl; exact rfl; (simp only [Act.put, zA, zB, zC])) | ((with_reducible apply wpList_loadOne HO); exact rfl; exact rfl; (repeat (with_reducible (first | exact At.head _ | apply At.tail))); exact rfl; infer_instance; exact rfl; (simp only [Act.put, zA, zB, zC]))) | ((have _h : Own W _ (box _ _ :: box _ _ :: _) := HO); clear _h; (((with_reducible apply wpList_allocAgg _ HO rfl); exact rfl; infer_instance; exact rfl; clear HO; intro b11 w HO; (simp only [Act.put, zA, zB, zC])))) | ((have _h : Own W _ (box _ _ :: _) := HO); clear _h; (((with_reducible apply wpList_boxAgg _ HO rfl); exact rfl; exact rfl; exact rfl; clear HO; intro b6 w HO; (simp only [Act.put, zA, zB, zC])))) | (((with_reducible apply wpList_boxAgg _ HO rfl); exact rfl; exact rfl; exact rfl; clear HO; intro b5 w HO; (simp only [Act.put, zA, zB, zC]))) | ((with_reducible apply wpList_storeAll HO); exact rfl; exact rfl; exact rfl; (repeat (with_reducible (exact At.head _))); infer_instance; exact rfl; exact rfl; exact rfl; exact rfl; clear HO; intro w HO; (simp only [Act.put])) | (go_at_call 151; go_must ((with_reducible refine (EN.out _ HO.grown).mono ?_); rintro e w ⟨rfl, hb⟩; replace HO := HO.call hb; clear hb)))
      refine region_sched ([box b11 (.cells #[.int .i64 Y.k, .int .i64 Y.id, .string ⟨Y.ref.toArray⟩, .string ⟨Y.sku.toArray⟩, .int .i64 Y.qty, .int .i64 Y.amt, .int .i64 Y.o, .int .i64 Y.d, .int .i64 Y.c, .int .i64 Y.p, .int .i64 Y.q, .slice none 0 0] 34)]) [(0, true), (2, true), (1, false), (3, false), (4, true)] HO (by with_reducible (repeat (first | exact List.nil_sublist _ | apply List.Sublist.cons_cons))) (by kernel_rfl) (by kernel_rfl) ?_
      clear HO
      intro w HO
      repeat (first | ((with_reducible apply wpHeld_loadAll); exact rfl; exact rfl; exact rfl; (repeat (with_reducible (exact At.head _))); infer_instance; exact rfl; exact rfl; (simp only [Act.put, zA, zB, zC])) | ((with_reducible apply wpHeld_pure); exact rfl; exact rfl; (intro w'; go_simp; try with_reducible rfl); (simp only [Act.put, zA, zB, zC])))
      ((with_reducible apply wpHeld_loud); exact rfl; go_wp2_with ((go_at_call 152; go_must ((with_reducible refine (CP.out _ HO.grown).mono ?_); rintro e w ⟨c1, rfl, HO1⟩; replace HO := HO.lift HO1; clear HO1; simp only [List.cons_append, List.nil_append] at HO))))
      refine ⟨HO.held (by with_reducible (repeat (first | exact List.nil_sublist _ | apply List.Sublist.cons_cons | apply List.Sublist.cons))), ?_⟩
      ((with_reducible apply wpHeld_loud); exact rfl; go_wp2_with ((go_at_call 28; go_must ((with_reducible refine (AP.out _ c1 _ HO).mono ?_); clear HO; rintro e w ⟨rfl, x9, N9, -, HO, -⟩))))
      replace HO := HO.sub ((List.sublist_append_right N9 _).cons _)
      refine ⟨HO.held (by with_reducible (repeat (first | exact List.nil_sublist _ | apply List.Sublist.cons_cons))), ?_⟩
      repeat ((with_reducible apply wpHeld_pure); exact rfl; exact rfl; (intro w'; go_simp; try with_reducible rfl); (simp only [Act.put, zA, zB, zC]))
      refine wpHeld_end ?_
      go_wp2_with (first | go_big_skip | (((with_reducible apply wpList_loadAll HO); exact rfl; exact rfl; (repeat (with_reducible (first | exact At.head _ | apply At.tail))); infer_instance; exact rfl; exact rfl; (simp only [Act.put, zA, zB, zC]))) | (go_at_call 123; go_must ((with_reducible refine (CG _).mono ?_); rintro e w ⟨rfl, hb⟩; replace HO := HO.call hb; clear hb)))
      go_ret
      exact ⟨by rw [HRF.out]; simp, HO.grown⟩
    | true =>
      rw [Bool.true_and] at HRF
      cases hv : (ev == 0)
      · rw [hv] at HRF
        clear SM hk12 hkx
        go_enter Tryz.func122, Tryz.ntmps122
        go_upto_region 9 with (first | (first | ((with_reducible apply wpList_loadAll HO); exact rfl; exact rfl; (repeat (with_reducible (first | exact At.head _ | apply At.tail))); infer_instance; exact rfl; exact rfl; (simp only [Act.put, zA, zB, zC])) | ((with_reducible apply wpList_loadOne HO); exact rfl; exact rfl; (repeat (with_reducible (first | exact At.head _ | apply At.tail))); exact rfl; infer_instance; exact rfl; (simp only [Act.put, zA, zB, zC]))) | ((have _h : Own W _ (box _ _ :: box _ _ :: _) := HO); clear _h; (((with_reducible apply wpList_allocAgg _ HO rfl); exact rfl; infer_instance; exact rfl; clear HO; intro b11 w HO; (simp only [Act.put, zA, zB, zC])))) | ((have _h : Own W _ (box _ _ :: _) := HO); clear _h; (((with_reducible apply wpList_boxAgg _ HO rfl); exact rfl; exact rfl; exact rfl; clear HO; intro b6 w HO; (simp only [Act.put, zA, zB, zC])))) | (((with_reducible apply wpList_boxAgg _ HO rfl); exact rfl; exact rfl; exact rfl; clear HO; intro b5 w HO; (simp only [Act.put, zA, zB, zC]))) | ((with_reducible apply wpList_storeAll HO); exact rfl; exact rfl; exact rfl; (repeat (with_reducible (exact At.head _))); infer_instance; exact rfl; exact rfl; exact rfl; exact rfl; clear HO; intro w HO; (simp only [Act.put])) | (go_at_call 151; go_must ((with_reducible refine (EN.out _ HO.grown).mono ?_); rintro e w ⟨rfl, hb⟩; replace HO := HO.call hb; clear hb)))
        refine region_sched ([box b11 (.cells #[.int .i64 Y.k, .int .i64 Y.id, .string ⟨Y.ref.toArray⟩, .string ⟨Y.sku.toArray⟩, .int .i64 Y.qty, .int .i64 Y.amt, .int .i64 Y.o, .int .i64 Y.d, .int .i64 Y.c, .int .i64 Y.p, .int .i64 Y.q, .slice none 0 0] 34)]) [(0, true), (2, true), (1, false), (3, false), (4, true)] HO (by with_reducible (repeat (first | exact List.nil_sublist _ | apply List.Sublist.cons_cons))) (by kernel_rfl) (by kernel_rfl) ?_
        clear HO
        intro w HO
        repeat (first | ((with_reducible apply wpHeld_loadAll); exact rfl; exact rfl; exact rfl; (repeat (with_reducible (exact At.head _))); infer_instance; exact rfl; exact rfl; (simp only [Act.put, zA, zB, zC])) | ((with_reducible apply wpHeld_pure); exact rfl; exact rfl; (intro w'; go_simp; try with_reducible rfl); (simp only [Act.put, zA, zB, zC])))
        ((with_reducible apply wpHeld_loud); exact rfl; go_wp2_with ((go_at_call 152; go_must ((with_reducible refine (CP.out _ HO.grown).mono ?_); rintro e w ⟨c1, rfl, HO1⟩; replace HO := HO.lift HO1; clear HO1; simp only [List.cons_append, List.nil_append] at HO))))
        refine ⟨HO.held (by with_reducible (repeat (first | exact List.nil_sublist _ | apply List.Sublist.cons_cons | apply List.Sublist.cons))), ?_⟩
        ((with_reducible apply wpHeld_loud); exact rfl; go_wp2_with ((go_at_call 28; go_must ((with_reducible refine (AP.out _ c1 _ HO).mono ?_); clear HO; rintro e w ⟨rfl, x9, N9, -, HO, -⟩))))
        replace HO := HO.sub ((List.sublist_append_right N9 _).cons _)
        refine ⟨HO.held (by with_reducible (repeat (first | exact List.nil_sublist _ | apply List.Sublist.cons_cons))), ?_⟩
        repeat ((with_reducible apply wpHeld_pure); exact rfl; exact rfl; (intro w'; go_simp; try with_reducible rfl); (simp only [Act.put, zA, zB, zC]))
        refine wpHeld_end ?_
        go_wp2_with (first | go_big_skip | (((with_reducible apply wpList_loadAll HO); exact rfl; exact rfl; (repeat (with_reducible (first | exact At.head _ | apply At.tail))); infer_instance; exact rfl; exact rfl; (simp only [Act.put, zA, zB, zC]))) | (go_at_call 123; go_must ((with_reducible refine (CG _).mono ?_); rintro e w ⟨rfl, hb⟩; replace HO := HO.call hb; clear hb)))
        go_ret
        exact ⟨by rw [HRF.out]; simp, HO.grown⟩
      · rw [hv] at HRF
        cases B1 with
        | false =>
          clear hk12 hkx
          go_enter Tryz.func122, Tryz.ntmps122
          go_upto_region 9 with (first | (first | ((with_reducible apply wpList_loadAll HO); exact rfl; exact rfl; (repeat (with_reducible (first | exact At.head _ | apply At.tail))); infer_instance; exact rfl; exact rfl; (simp only [Act.put, zA, zB, zC])) | ((with_reducible apply wpList_loadOne HO); exact rfl; exact rfl; (repeat (with_reducible (first | exact At.head _ | apply At.tail))); exact rfl; infer_instance; exact rfl; (simp only [Act.put, zA, zB, zC]))) | ((have _h : Own W _ (box _ _ :: box _ _ :: _) := HO); clear _h; (((with_reducible apply wpList_allocAgg _ HO rfl); exact rfl; infer_instance; exact rfl; clear HO; intro b11 w HO; (simp only [Act.put, zA, zB, zC])))) | ((have _h : Own W _ (box _ _ :: _) := HO); clear _h; (((with_reducible apply wpList_boxAgg _ HO rfl); exact rfl; exact rfl; exact rfl; clear HO; intro b6 w HO; (simp only [Act.put, zA, zB, zC])))) | (((with_reducible apply wpList_boxAgg _ HO rfl); exact rfl; exact rfl; exact rfl; clear HO; intro b5 w HO; (simp only [Act.put, zA, zB, zC]))) | ((with_reducible apply wpList_storeAll HO); exact rfl; exact rfl; exact rfl; (repeat (with_reducible (exact At.head _))); infer_instance; exact rfl; exact rfl; exact rfl; exact rfl; clear HO; intro w HO; (simp only [Act.put])) | (go_at_call 151; go_must ((with_reducible refine (EN.out _ HO.grown).mono ?_); rintro e w ⟨rfl, hb⟩; replace HO := HO.call hb; clear hb)))
          refine region_sched ([box b11 (.cells #[.int .i64 Y.k, .int .i64 Y.id, .string ⟨Y.ref.toArray⟩, .string ⟨Y.sku.toArray⟩, .int .i64 Y.qty, .int .i64 Y.amt, .int .i64 Y.o, .int .i64 Y.d, .int .i64 Y.c, .int .i64 Y.p, .int .i64 Y.q, .slice none 0 0] 34)]) [(0, true), (2, true), (1, false), (3, false), (4, true)] HO (by with_reducible (repeat (first | exact List.nil_sublist _ | apply List.Sublist.cons_cons))) (by kernel_rfl) (by kernel_rfl) ?_
          clear HO
          intro w HO
          repeat (first | ((with_reducible apply wpHeld_loadAll); exact rfl; exact rfl; exact rfl; (repeat (with_reducible (exact At.head _))); infer_instance; exact rfl; exact rfl; (simp only [Act.put, zA, zB, zC])) | ((with_reducible apply wpHeld_pure); exact rfl; exact rfl; (intro w'; go_simp; try with_reducible rfl); (simp only [Act.put, zA, zB, zC])))
          ((with_reducible apply wpHeld_loud); exact rfl; go_wp2_with ((go_at_call 152; go_must ((with_reducible refine (CP.out _ HO.grown).mono ?_); rintro e w ⟨c1, rfl, HO1⟩; replace HO := HO.lift HO1; clear HO1; simp only [List.cons_append, List.nil_append] at HO))))
          refine ⟨HO.held (by with_reducible (repeat (first | exact List.nil_sublist _ | apply List.Sublist.cons_cons | apply List.Sublist.cons))), ?_⟩
          ((with_reducible apply wpHeld_loud); exact rfl; go_wp2_with ((go_at_call 28; go_must ((with_reducible refine (AP.out _ c1 _ HO).mono ?_); clear HO; rintro e w ⟨rfl, x9, N9, -, HO, -⟩))))
          replace HO := HO.sub ((List.sublist_append_right N9 _).cons _)
          refine ⟨HO.held (by with_reducible (repeat (first | exact List.nil_sublist _ | apply List.Sublist.cons_cons))), ?_⟩
          repeat ((with_reducible apply wpHeld_pure); exact rfl; exact rfl; (intro w'; go_simp; try with_reducible rfl); (simp only [Act.put, zA, zB, zC]))
          refine wpHeld_end ?_
          go_wp2_with (first | go_big_skip | (((with_reducible apply wpList_loadAll HO); exact rfl; exact rfl; (repeat (with_reducible (first | exact At.head _ | apply At.tail))); infer_instance; exact rfl; exact rfl; (simp only [Act.put, zA, zB, zC]))) | (go_at_call 123; go_must ((with_reducible refine (CG _).mono ?_); rintro e w ⟨rfl, hb⟩; replace HO := HO.call hb; clear hb)) | (go_at_call 153; go_must ((with_reducible refine (SM.out _ HO.grown).mono ?_); rintro e w ⟨rfl, hb⟩; replace HO := HO.call hb; clear hb)))
          go_ret
          exact ⟨by rw [HRF.out]; simp, HO.grown⟩
        | true =>
          cases hk2 : (y.k == 2)
          · have hk1 : (y.k == 1) = true := by rw [hkx.out, hk2]; rfl
            rw [hk1] at HRF
            clear hk12 hkx hk1
            go_enter Tryz.func122, Tryz.ntmps122
            go_upto_region 9 with (first | (first | ((with_reducible apply wpList_loadAll HO); exact rfl; exact rfl; (repeat (with_reducible (first | exact At.head _ | apply At.tail))); infer_instance; exact rfl; exact rfl; (simp only [Act.put, zA, zB, zC])) | ((with_reducible apply wpList_loadOne HO); exact rfl; exact rfl; (repeat (with_reducible (first | exact At.head _ | apply At.tail))); exact rfl; infer_instance; exact rfl; (simp only [Act.put, zA, zB, zC]))) | ((have _h : Own W _ (box _ _ :: box _ _ :: _) := HO); clear _h; (((with_reducible apply wpList_allocAgg _ HO rfl); exact rfl; infer_instance; exact rfl; clear HO; intro b11 w HO; (simp only [Act.put, zA, zB, zC])))) | ((have _h : Own W _ (box _ _ :: _) := HO); clear _h; (((with_reducible apply wpList_boxAgg _ HO rfl); exact rfl; exact rfl; exact rfl; clear HO; intro b6 w HO; (simp only [Act.put, zA, zB, zC])))) | (((with_reducible apply wpList_boxAgg _ HO rfl); exact rfl; exact rfl; exact rfl; clear HO; intro b5 w HO; (simp only [Act.put, zA, zB, zC]))) | ((with_reducible apply wpList_storeAll HO); exact rfl; exact rfl; exact rfl; (repeat (with_reducible (exact At.head _))); infer_instance; exact rfl; exact rfl; exact rfl; exact rfl; clear HO; intro w HO; (simp only [Act.put])) | (go_at_call 151; go_must ((with_reducible refine (EN.out _ HO.grown).mono ?_); rintro e w ⟨rfl, hb⟩; replace HO := HO.call hb; clear hb)))
            refine region_sched ([box b11 (.cells #[.int .i64 Y.k, .int .i64 Y.id, .string ⟨Y.ref.toArray⟩, .string ⟨Y.sku.toArray⟩, .int .i64 Y.qty, .int .i64 Y.amt, .int .i64 Y.o, .int .i64 Y.d, .int .i64 Y.c, .int .i64 Y.p, .int .i64 Y.q, .slice none 0 0] 34)]) [(0, true), (2, true), (1, false), (3, false), (4, true)] HO (by with_reducible (repeat (first | exact List.nil_sublist _ | apply List.Sublist.cons_cons))) (by kernel_rfl) (by kernel_rfl) ?_
            clear HO
            intro w HO
            repeat (first | ((with_reducible apply wpHeld_loadAll); exact rfl; exact rfl; exact rfl; (repeat (with_reducible (exact At.head _))); infer_instance; exact rfl; exact rfl; (simp only [Act.put, zA, zB, zC])) | ((with_reducible apply wpHeld_pure); exact rfl; exact rfl; (intro w'; go_simp; try with_reducible rfl); (simp only [Act.put, zA, zB, zC])))
            ((with_reducible apply wpHeld_loud); exact rfl; go_wp2_with ((go_at_call 152; go_must ((with_reducible refine (CP.out _ HO.grown).mono ?_); rintro e w ⟨c1, rfl, HO1⟩; replace HO := HO.lift HO1; clear HO1; simp only [List.cons_append, List.nil_append] at HO))))
            refine ⟨HO.held (by with_reducible (repeat (first | exact List.nil_sublist _ | apply List.Sublist.cons_cons | apply List.Sublist.cons))), ?_⟩
            ((with_reducible apply wpHeld_loud); exact rfl; go_wp2_with ((go_at_call 28; go_must ((with_reducible refine (AP.out _ c1 _ HO).mono ?_); clear HO; rintro e w ⟨rfl, x9, N9, -, HO, -⟩))))
            replace HO := HO.sub ((List.sublist_append_right N9 _).cons _)
            refine ⟨HO.held (by with_reducible (repeat (first | exact List.nil_sublist _ | apply List.Sublist.cons_cons))), ?_⟩
            repeat ((with_reducible apply wpHeld_pure); exact rfl; exact rfl; (intro w'; go_simp; try with_reducible rfl); (simp only [Act.put, zA, zB, zC]))
            refine wpHeld_end ?_
            go_wp2_with (first | (first | ((with_reducible apply wpList_loadAll HO); exact rfl; exact rfl; (repeat (with_reducible (first | exact At.head _ | apply At.tail))); infer_instance; exact rfl; exact rfl; (simp only [Act.put, zA, zB, zC])) | ((with_reducible apply wpList_loadOne HO); exact rfl; exact rfl; (repeat (with_reducible (first | exact At.head _ | apply At.tail))); exact rfl; infer_instance; exact rfl; (simp only [Act.put, zA, zB, zC]))) | (go_at_call 123; go_must ((with_reducible refine (CG _).mono ?_); rintro e w ⟨rfl, hb⟩; replace HO := HO.call hb; clear hb)) | (go_at_call 153; go_must ((with_reducible refine (SM.out _ HO.grown).mono ?_); rintro e w ⟨rfl, hb⟩; replace HO := HO.call hb; clear hb)))
            go_ret
            exact ⟨by rw [HRF.out]; simp, HO.grown⟩
          · have hk1 : (y.k == 1) = false := by rw [hkx.out, hk2]; rfl
            rw [hk1] at HRF
            clear hk12 hkx hk1
            go_enter Tryz.func122, Tryz.ntmps122
            go_upto_region 9 with (first | (first | ((with_reducible apply wpList_loadAll HO); exact rfl; exact rfl; (repeat (with_reducible (first | exact At.head _ | apply At.tail))); infer_instance; exact rfl; exact rfl; (simp only [Act.put, zA, zB, zC])) | ((with_reducible apply wpList_loadOne HO); exact rfl; exact rfl; (repeat (with_reducible (first | exact At.head _ | apply At.tail))); exact rfl; infer_instance; exact rfl; (simp only [Act.put, zA, zB, zC]))) | ((have _h : Own W _ (box _ _ :: box _ _ :: _) := HO); clear _h; (((with_reducible apply wpList_allocAgg _ HO rfl); exact rfl; infer_instance; exact rfl; clear HO; intro b11 w HO; (simp only [Act.put, zA, zB, zC])))) | ((have _h : Own W _ (box _ _ :: _) := HO); clear _h; (((with_reducible apply wpList_boxAgg _ HO rfl); exact rfl; exact rfl; exact rfl; clear HO; intro b6 w HO; (simp only [Act.put, zA, zB, zC])))) | (((with_reducible apply wpList_boxAgg _ HO rfl); exact rfl; exact rfl; exact rfl; clear HO; intro b5 w HO; (simp only [Act.put, zA, zB, zC]))) | ((with_reducible apply wpList_storeAll HO); exact rfl; exact rfl; exact rfl; (repeat (with_reducible (exact At.head _))); infer_instance; exact rfl; exact rfl; exact rfl; exact rfl; clear HO; intro w HO; (simp only [Act.put])) | (go_at_call 151; go_must ((with_reducible refine (EN.out _ HO.grown).mono ?_); rintro e w ⟨rfl, hb⟩; replace HO := HO.call hb; clear hb)))
            refine region_sched ([box b11 (.cells #[.int .i64 Y.k, .int .i64 Y.id, .string ⟨Y.ref.toArray⟩, .string ⟨Y.sku.toArray⟩, .int .i64 Y.qty, .int .i64 Y.amt, .int .i64 Y.o, .int .i64 Y.d, .int .i64 Y.c, .int .i64 Y.p, .int .i64 Y.q, .slice none 0 0] 34)]) [(0, true), (2, true), (1, false), (3, false), (4, true)] HO (by with_reducible (repeat (first | exact List.nil_sublist _ | apply List.Sublist.cons_cons))) (by kernel_rfl) (by kernel_rfl) ?_
            clear HO
            intro w HO
            repeat (first | ((with_reducible apply wpHeld_loadAll); exact rfl; exact rfl; exact rfl; (repeat (with_reducible (exact At.head _))); infer_instance; exact rfl; exact rfl; (simp only [Act.put, zA, zB, zC])) | ((with_reducible apply wpHeld_pure); exact rfl; exact rfl; (intro w'; go_simp; try with_reducible rfl); (simp only [Act.put, zA, zB, zC])))
            ((with_reducible apply wpHeld_loud); exact rfl; go_wp2_with ((go_at_call 152; go_must ((with_reducible refine (CP.out _ HO.grown).mono ?_); rintro e w ⟨c1, rfl, HO1⟩; replace HO := HO.lift HO1; clear HO1; simp only [List.cons_append, List.nil_append] at HO))))
            refine ⟨HO.held (by with_reducible (repeat (first | exact List.nil_sublist _ | apply List.Sublist.cons_cons | apply List.Sublist.cons))), ?_⟩
            ((with_reducible apply wpHeld_loud); exact rfl; go_wp2_with ((go_at_call 28; go_must ((with_reducible refine (AP.out _ c1 _ HO).mono ?_); clear HO; rintro e w ⟨rfl, x9, N9, -, HO, -⟩))))
            replace HO := HO.sub ((List.sublist_append_right N9 _).cons _)
            refine ⟨HO.held (by with_reducible (repeat (first | exact List.nil_sublist _ | apply List.Sublist.cons_cons))), ?_⟩
            repeat ((with_reducible apply wpHeld_pure); exact rfl; exact rfl; (intro w'; go_simp; try with_reducible rfl); (simp only [Act.put, zA, zB, zC]))
            refine wpHeld_end ?_
            go_wp2_with (first | go_big_skip | (first | ((with_reducible apply wpList_loadAll HO); exact rfl; exact rfl; (repeat (with_reducible (first | exact At.head _ | apply At.tail))); infer_instance; exact rfl; exact rfl; (simp only [Act.put, zA, zB, zC])) | ((with_reducible apply wpList_loadOne HO); exact rfl; exact rfl; (repeat (with_reducible (first | exact At.head _ | apply At.tail))); exact rfl; infer_instance; exact rfl; (simp only [Act.put, zA, zB, zC]))) | (go_at_call 123; go_must ((with_reducible refine (CG _).mono ?_); rintro e w ⟨rfl, hb⟩; replace HO := HO.call hb; clear hb)) | (go_at_call 153; go_must ((with_reducible refine (SM.out _ HO.grown).mono ?_); rintro e w ⟨rfl, hb⟩; replace HO := HO.call hb; clear hb)))
            go_ret
            exact ⟨by rw [HRF.out]; simp, HO.grown⟩

/-- Whether a line fits at the document's core. -/
theorem rFits_any {W : World} {x : RcA} {S : CoS} {A : InS} {e : EntS} {ve : Value} (h : RcAt W x S A) (hI : CoInv S A) (hids : idsOk S.L) (hlen : S.P.length ≤ 99000) (y : HisS) (hk : y.k = 1 ∨ y.k = 2 ∨ y.k = 3 ∨ y.k = 4) (l1 : y.o.ref.length ≤ maxLen) (l2 : y.o.sku.length ≤ maxLen) (l3 : inI y.a = true) (he : IsRows W ve e.rs) (more : Bool) : Calls Tryz.prog 122 #[.pointer (some ⟨x.r, 0, none⟩), .agg (rhC y).toArray, .agg #[.int .i64 (e).k, .int .i64 (e).id, .string ⟨(e).ref.toArray⟩, .string ⟨(e).sku.toArray⟩, .int .i64 (e).qty, .int .i64 (e).amt, .int .i64 (e).o, .int .i64 (e).d, .int .i64 (e).c, .int .i64 (e).p, .int .i64 (e).q, ve], .bool more] W fun e' w' => e' = .returned (.bool (rfitsB S A e more y)) ∧ Below W.heap.size W w' := by
  rcases hk with hk | hk | hk | hk
  · exact rFitsChg_any h hI hids hlen y (.inl hk) l1 l2 l3 he more
  · exact rFitsChg_any h hI hids hlen y (.inr hk) l1 l2 l3 he more
  · exact rFitsLook_any h hI.ok.len y hk he more
  · exact rFitsBal_any h hI hlen y hk he more
end Go.Proofs.YtibabfedpdoofaaGreatDoor
namespace Go.Proofs.YtibabfedpdoofaaGreatDoor
open Go.RowKit Go.Own Go.Maps

structure RLineOk (z : HisS) : Prop where
  k : z.k = 0 ∨ z.k = 1 ∨ z.k = 2 ∨ z.k = 3 ∨ z.k = 4
  a : inI z.a = true
  ref : z.o.ref.length ≤ maxLen
  sku : z.o.sku.length ≤ maxLen
theorem rfits_at {X : List EntS} {j : Nat} (hj : j < X.length) (z : HisS) : rfitsB (stAt X j).1 (stAt X j).2 X[j] true z = fitsB X j z := by
  unfold rfitsB fitsB
  rw [chgdH_at hj, Bool.true_and]
theorem rfits_end {X : List EntS} (e : EntS) (z : HisS) : rfitsB (stAt X X.length).1 (stAt X X.length).2 e false z = fitsB X X.length z := by
  unfold rfitsB fitsB
  rw [chgdH_end, Bool.false_and]
theorem changes_of {z : HisS} (h : takesH z = true) : changesH z = chgH z := by
  unfold changesH chgH
  rcases takes_kind h with hk | hk | hk | hk <;> rw [hk] <;> simp
theorem chg_more {X : List EntS} {j : Nat} {z : HisS} (h : fitsB X j z = true) (hc : chgH z = true) : j < X.length := by
  unfold fitsB at h
  rw [if_pos hc] at h
  unfold chgdH at h
  split at h
  · rename_i e he
    exact (List.getElem?_eq_some_iff.1 he).1
  · cases h

set_option maxHeartbeats 32000000 in
set_option maxRecDepth 100000 in
theorem rCheck_any {W : World} {vl vj : Value} {zs : List HisS} {es : List EntI} (hY : IsL W 23 vl (zs.map rhC)) (hz : ∀ z ∈ zs, RLineOk z) (hE : IsEnts W vj es) (hle : es.length ≤ 1000) :
    Calls Tryz.prog 63 #[vl, vj] W fun e w' => e = .returned (.int .i64 (checkH (es.map (·.x)) zs 0 0)) ∧ Below W.heap.size W w' := by
  have HO := Own.start W
  obtain ⟨sp, sc, rfl, hmx⟩ := hE.l.slice
  rw [List.length_map] at hmx hE ⊢
  obtain ⟨lp, lc, rfl, hml⟩ := hY.slice
  rw [List.length_map] at hml hY ⊢
  have hml' : (zs.length : Int) ≤ 9223372036854775807 := by unfold maxLen at hml; omega
  obtain ⟨X, hX⟩ : ∃ X, X = es.map (·.x) := ⟨_, rfl⟩
  have hXl : X.length ≤ 1000 := by rw [hX, List.length_map]; exact hle
  have hXe : X.length = es.length := by rw [hX, List.length_map]
  -- fits at the next entry, at the end; the next entry done
  have FT := Lib.hid (fun (w : World) (L' N : List Ent) (x : RcA) (j : Nat) (z : HisS) (hj : j < X.length) (h : Own W w L') (hR : RcIn W N x (stAt X j).1 (stAt X j).2) (hN : ∀ e ∈ N, e ∈ L') (hb : rcB x (stAt X j).2 ∈ L') (hzk : RLineOk z) (ht : takesH z = true) =>
    show Calls Tryz.prog 122 #[.pointer (some ⟨x.r, 0, none⟩), .agg (rhC z).toArray, .agg #[.int .i64 ((es[j]'(by omega)).x).k, .int .i64 ((es[j]'(by omega)).x).id, .string ⟨((es[j]'(by omega)).x).ref.toArray⟩, .string ⟨((es[j]'(by omega)).x).sku.toArray⟩, .int .i64 ((es[j]'(by omega)).x).qty, .int .i64 ((es[j]'(by omega)).x).amt, .int .i64 ((es[j]'(by omega)).x).o, .int .i64 ((es[j]'(by omega)).x).d, .int .i64 ((es[j]'(by omega)).x).c, .int .i64 ((es[j]'(by omega)).x).p, .int .i64 ((es[j]'(by omega)).x).q, (es[j]'(by omega)).v], .bool true] w fun e' w' => e' = .returned (.bool (fitsB X j z)) ∧ Below w.heap.size w w' by
      obtain ⟨inv, ids, len⟩ := stAt_ok X (Nat.le_of_lt hj) hXl
      have hr := hE.r _ (List.getElem_mem (show j < es.length by omega))
      have h1 := rFits_any (W := w) (hR.full h hN hb) inv ids (by omega) z (takes_kind ht) hzk.ref hzk.sku hzk.a (hr.1.below h.grown hr.1.lt) true
      have h2 := rfits_at hj z
      rw [show X[j] = (es[j]'(by omega)).x by subst hX; rw [List.getElem_map]] at h2
      rw [h2] at h1
      exact h1)
  have FE := Lib.hid (fun (w : World) (L' N : List Ent) (x : RcA) (z : HisS) (h : Own W w L') (hR : RcIn W N x (stAt X X.length).1 (stAt X X.length).2) (hN : ∀ e ∈ N, e ∈ L') (hb : rcB x (stAt X X.length).2 ∈ L') (hzk : RLineOk z) (ht : takesH z = true) =>
    show Calls Tryz.prog 122 #[.pointer (some ⟨x.r, 0, none⟩), .agg (rhC z).toArray, .agg #[.int .i64 0, .int .i64 0, .string ⟨#[]⟩, .string ⟨#[]⟩, .int .i64 0, .int .i64 0, .int .i64 0, .int .i64 0, .int .i64 0, .int .i64 0, .int .i64 0, .slice none 0 0], .bool false] w fun e' w' => e' = .returned (.bool (fitsB X X.length z)) ∧ Below w.heap.size w w' by
      obtain ⟨inv, ids, len⟩ := stAt_ok X (Nat.le_refl _) hXl
      have h1 := rFits_any (W := w) (e := zeroE 0) (ve := .slice none 0 0) (hR.full h hN hb) inv ids (by omega) z (takes_kind ht) hzk.ref hzk.sku hzk.a (.none _ _ (fun _ => rfl)) false
      rw [rfits_end] at h1
      exact h1)
  have AP := Lib.hid (fun (w : World) (M N : List Ent) (x : RcA) (j : Nat) (hj : j < X.length) (h : Own W w (rcB x (stAt X j).2 :: M)) (hR : RcIn W N x (stAt X j).1 (stAt X j).2) (hN : ∀ e ∈ N, e ∈ M) =>
    show Calls Tryz.prog 28 #[.pointer (some ⟨x.r, 0, none⟩), .agg #[.int .i64 ((es[j]'(by omega)).x).k, .int .i64 ((es[j]'(by omega)).x).id, .string ⟨((es[j]'(by omega)).x).ref.toArray⟩, .string ⟨((es[j]'(by omega)).x).sku.toArray⟩, .int .i64 ((es[j]'(by omega)).x).qty, .int .i64 ((es[j]'(by omega)).x).amt, .int .i64 ((es[j]'(by omega)).x).o, .int .i64 ((es[j]'(by omega)).x).d, .int .i64 ((es[j]'(by omega)).x).c, .int .i64 ((es[j]'(by omega)).x).p, .int .i64 ((es[j]'(by omega)).x).q, (es[j]'(by omega)).v]] w fun e w' => ∃ ev : Int, e = .returned (.int .i64 ev) ∧ ∃ (x' : RcA) (N' : List Ent), x'.r = x.r ∧ Own W w' (rcB x' (stAt X (j + 1)).2 :: (N' ++ M)) ∧ RcIn W (N' ++ M) x' (stAt X (j + 1)).1 (stAt X (j + 1)).2 by
      obtain ⟨inv, ids, len⟩ := stAt_ok X (Nat.le_of_lt hj) hXl
      obtain ⟨hS, hA⟩ := stAt_snoc X hj
      rw [show X[j] = (es[j]'(by omega)).x by subst hX; rw [List.getElem_map]] at hS hA
      have h1 := rcApply_any (es[j]'(by omega)).x h hR hN ((hE.into N).r _ (List.getElem_mem (show j < es.length by omega))) inv ids (by omega)
      refine h1.mono fun e w' ⟨he, x', N', e1, e2, e3⟩ => ⟨_, he, x', N', e1, by rw [hA]; exact e2, ?_⟩
      rw [hS, hA]
      exact e3.mono (fun e he => by
        rcases List.mem_append.1 he with he | he
        · exact List.mem_append_left _ he
        · exact List.mem_append_right _ (hN e he)))
  have HY := Lib.hid hY
  have HZ := Lib.hid hz
  have HEL := Lib.hid hE.l
  have HER := Lib.hid hE.r
  rw [← hX]
  obtain ⟨R, hR⟩ : ∃ R, R = checkH X zs 0 0 := ⟨_, rfl⟩
  rw [← hR]
  replace hR := Lib.hid hR
  have hN0 := fun r => rcNil_in W r
  have HN0 := Lib.hid (show ∀ r, RcIn W [] (rcNil r) (stAt X 0).1 (stAt X 0).2 from fun r => rcNil_in W r)
  have HA0 := Lib.hid (show (stAt X 0).2 = zeroI from rfl)
  clear hY hz hE hX hXl hle hN0
  go_enter Tryz.func63, Tryz.ntmps63
  go_wp2_with ((go_at_call 26; go_must ((with_reducible refine (rcNew_any _).mono ?_); rintro e w ⟨r, rfl, HO1⟩; replace HO := HO.lift HO1; clear HO1)))
  go_loopw [6, 7] (fun av iv wr => ∃ (k j : Nat) (x' : RcA) (N : List Ent), k ≤ zs.length ∧ iv = .int .i64 (k : Int) ∧ av = .int .i64 (j : Int) ∧ j ≤ X.length ∧ x'.r = r ∧ RcIn W N x' (stAt X j).1 (stAt X j).2 ∧ R = checkH X (zs.drop k) k j ∧ Own W wr (rcB x' (stAt X j).2 :: N)) (fun _ iv _ => zs.length - (intOf iv).toNat)
  case atStart => exact ⟨0, 0, rcNil r, [], by omega, rfl, rfl, by omega, rfl, HN0.out r, by rw [List.drop_zero]; exact hR.out, by rw [HA0.out]; exact HO⟩
  case round =>
    clear HO
    obtain ⟨k, j, x0, N0, hk, rfl, rfl, hj, hxr, hR0, hRk, HO⟩ := hrel
    have HR := Lib.hid hRk
    have HR0 := Lib.hid hR0
    clear hRk hR0
    by_cases hkl : k < zs.length
    · have hkI : (k : Int) < (zs.length : Int) := by omega
      obtain ⟨q, rfl, hst⟩ := oldAt HY.out rfl hkl
      have hzk := Lib.hid (HZ.out _ (List.getElem_mem hkl))
      have HSK := Lib.hid (fun (h : takesH zs[k] = false) => checkH_skip (es := X) (j := j) hkl h)
      have HGO := Lib.hid (fun (j' : Nat) (h : takesH zs[k] = true) (hg : goesH X zs[k] (X.length - j) j = some j') => checkH_goes (es := X) (j := j) (j' := j') hkl h hg)
      have HNO := Lib.hid (fun (h : takesH zs[k] = true) (hg : goesH X zs[k] (X.length - j) j = none) => checkH_none (es := X) (j := j) hkl h hg)
      generalize zs[k] = z at *
      have TK := fun w => rtakes_any z hzk.out.k w
      have CG := fun w => changes_any z w
      cases ht : takesH z with
      | false =>
        rw [ht] at TK
        have HQ := Lib.hid (HR.out.trans (HSK.out ht))
        unfold rhC at hst TK
        replace hst := Lib.hid hst
        clear HSK HGO HNO ht CG hzk
        go_wp2_with (first | ((with_reducible apply wpList_loadAt HO); exact rfl; exact rfl; exact (fun w' h1 => hst.out w' h1.grown); infer_instance; exact rfl; exact rfl; (simp only [Act.put, zA, zB, zC])) | (go_at_call 61; go_must ((with_reducible refine (TK _).mono ?_); rintro e w ⟨rfl, hb⟩; replace HO := HO.call hb; clear hb)))
        go_roundw
        case rel => exact ⟨k + 1, j, x0, N0, by omega, by go_num, rfl, hj, hxr, HR0.out, HQ.out, HO⟩
        case measure => simp [intOf] <;> omega
      | true =>
        rw [ht] at TK
        rw [changes_of ht] at CG
        have HFT := Lib.hid (fun (w : World) (L' N : List Ent) (x : RcA) (j : Nat) (hj : j < X.length) (h : Own W w L') (hR : RcIn W N x (stAt X j).1 (stAt X j).2) (hN : ∀ e ∈ N, e ∈ L') (hb : rcB x (stAt X j).2 ∈ L') => FT.out w L' N x j z hj h hR hN hb hzk.out ht)
        have HFE := Lib.hid (fun (w : World) (L' N : List Ent) (x : RcA) (h : Own W w L') (hR : RcIn W N x (stAt X X.length).1 (stAt X X.length).2) (hN : ∀ e ∈ N, e ∈ L') (hb : rcB x (stAt X X.length).2 ∈ L') => FE.out w L' N x z h hR hN hb hzk.out ht)
        have HG1 := Lib.hid (fun (j' : Nat) (hg : goesH X z (X.length - j) j = some j') => HR.out.trans (HGO.out j' ht hg))
        have HN1 := Lib.hid (fun (hg : goesH X z (X.length - j) j = none) => HR.out.trans (HNO.out ht hg))
        clear HSK HGO HNO ht hzk FT FE HR
        obtain ⟨G, hG⟩ : ∃ G, G = goesH X z (X.length - j) j := ⟨_, rfl⟩
        rw [← hG] at HG1 HN1
        replace hG := Lib.hid hG
        replace CG := Lib.hid CG
        simp only [rhC] at hst TK HFT HFE CG
        replace hst := Lib.hid hst
        obtain ⟨cz, hcz⟩ : ∃ cz, cz = chgH z := ⟨_, rfl⟩
        rw [← hcz] at CG
        replace hcz := Lib.hid hcz
        go_wp2_with (first | ((with_reducible apply wpList_loadAt HO); exact rfl; exact rfl; exact (fun w' h1 => hst.out w' h1.grown); infer_instance; exact rfl; exact rfl; (simp only [Act.put, zA, zB, zC])) | (go_at_call 61; go_must ((with_reducible refine (TK _).mono ?_); rintro e w ⟨rfl, hb⟩; replace HO := HO.call hb; clear hb)))
        go_loopw [6] (fun av wr => ∃ (j' : Nat) (x' : RcA) (N : List Ent), av = .int .i64 (j' : Int) ∧ j' ≤ X.length ∧ x'.r = r ∧ RcIn W N x' (stAt X j').1 (stAt X j').2 ∧ G = goesH X z (X.length - j') j' ∧ Own W wr (rcB x' (stAt X j').2 :: N)) (fun av _ => X.length - (intOf av).toNat)
        case atStart => exact ⟨j, x0, N0, rfl, hj, hxr, HR0.out, hG.out, HO⟩
        case round =>
          clear HO HR0 hG hxr
          obtain ⟨j', x', N, rfl, hj', hxr, hRN, hGj, HO⟩ := hrel
          have HRN := Lib.hid hRN
          have HGJ := Lib.hid hGj
          have HXR := Lib.hid hxr
          clear hRN hGj hxr
          by_cases hjl : j' < X.length
          · have hje : j' < es.length := by omega
            have hjI : (j' : Int) < (es.length : Int) := by omega
            have hnE : ((j' : Int) == (es.length : Int)) = false := by rw [beq_eq_false_iff_ne]; omega
            have hml8 : (es.length : Int) ≤ 9223372036854775807 := by unfold maxLen at hmx; omega
            obtain ⟨qe, rfl, hste⟩ := oldAt HEL.out rfl hje
            have hrw := (HER.out _ (List.getElem_mem hje)).1
            have FF := fun (w : World) (Z : Ent) (h : Own W w (Z :: rcB x' (stAt X j').2 :: N)) => HFT.out w _ N x' j' hjl h HRN.out (fun e he => List.mem_cons_of_mem _ (List.mem_cons_of_mem _ he)) (List.mem_cons_of_mem _ List.mem_cons_self)
            have AA : ∀ (w : World) (Z : Ent), Own W w (Z :: rcB x' (stAt X j').2 :: N) → Calls Tryz.prog 28 #[.pointer (some ⟨x'.r, 0, none⟩), .agg #[.int .i64 ((es[j']'(by omega)).x).k, .int .i64 ((es[j']'(by omega)).x).id, .string ⟨((es[j']'(by omega)).x).ref.toArray⟩, .string ⟨((es[j']'(by omega)).x).sku.toArray⟩, .int .i64 ((es[j']'(by omega)).x).qty, .int .i64 ((es[j']'(by omega)).x).amt, .int .i64 ((es[j']'(by omega)).x).o, .int .i64 ((es[j']'(by omega)).x).d, .int .i64 ((es[j']'(by omega)).x).c, .int .i64 ((es[j']'(by omega)).x).p, .int .i64 ((es[j']'(by omega)).x).q, (es[j']'(by omega)).v]] w fun e w' => ∃ ev : Int, e = .returned (.int .i64 ev) ∧ ∃ (x9 : RcA) (N9 : List Ent), x9.r = x'.r ∧ Own W w' (rcB x9 (stAt X (j' + 1)).2 :: N9) ∧ RcIn W N9 x9 (stAt X (j' + 1)).1 (stAt X (j' + 1)).2 :=
              fun w Z h => (AP.out w (Z :: N) N x' j' hjl h.swap HRN.out (fun e he => List.mem_cons_of_mem _ he)).mono fun e w' ⟨ev, e0, x9, N9, e1, e2, e3⟩ => ⟨ev, e0, x9, _, e1, e2, e3⟩
            rw [HXR.out] at FF AA
            replace FF := Lib.hid FF
            replace AA := Lib.hid AA
            generalize es[j'] = ent at *
            obtain ⟨⟨y1, y2, y3, y4, y5, y6, y7, y8, y9, y10, y11, y12⟩, yv⟩ := ent
            obtain ⟨vp, vc, hyv, -⟩ := hrw.slice
            simp only at hyv
            generalize y12.length = vn at hyv
            subst hyv
            unfold entC at hste
            simp only at hste FF AA
            replace hste := Lib.hid hste
            clear hrw
            cases hb : fitsB X j' z with
            | true =>
              rw [hb] at FF
              have HY1 := Lib.hid (HG1.out _ (HGJ.out.trans (goesH_yes (X.length - j') hb)))
              clear hb
              cases cz with
              | true =>
                rw [if_pos hcz.out.symm] at HY1
                go_upto_region 10 with (first | (((with_reducible apply wpList_allocAgg _ HO rfl); exact rfl; infer_instance; exact rfl; clear HO; intro b8 w HO; (simp only [Act.put, zA, zB, zC]))) | ((with_reducible apply wpList_loadAt HO); exact rfl; exact rfl; exact (fun w' h1 => hste.out w' h1.grown); infer_instance; exact rfl; exact rfl; (simp only [Act.put, zA, zB, zC])) | ((with_reducible apply wpList_storeAll HO); exact rfl; exact rfl; exact rfl; (repeat (with_reducible (exact At.head _))); infer_instance; exact rfl; exact rfl; exact rfl; exact rfl; clear HO; intro w HO; (simp only [Act.put])))
                refine region_schedO ([box b8 (.cells #[.int .i64 y1, .int .i64 y2, .string ⟨y3.toArray⟩, .string ⟨y4.toArray⟩, .int .i64 y5, .int .i64 y6, .int .i64 y7, .int .i64 y8, .int .i64 y9, .int .i64 y10, .int .i64 y11, .slice vp vn vc] 34)]) [(0, true), (1, true), (2, true), (3, true), (4, true), (5, true), (6, true), (7, true), (8, true), (9, true), (10, false)] HO (by with_reducible (repeat (first | exact List.nil_sublist _ | apply List.Sublist.cons_cons))) (by kernel_rfl) (by kernel_rfl) ?_
                clear HO
                intro w HO
                repeat (first | ((with_reducible apply wpHeld_loadAt); exact rfl; exact rfl; exact rfl; exact (fun w' hw => hst.out w' (hw _ List.mem_cons_self)); infer_instance; exact rfl; exact rfl; (simp only [Act.put, zA, zB, zC])) | ((with_reducible apply wpHeld_loadAll); exact rfl; exact rfl; exact rfl; (repeat (with_reducible (first | exact At.head _ | apply At.tail))); infer_instance; exact rfl; exact rfl; (simp only [Act.put, zA, zB, zC])) | ((with_reducible apply wpHeld_pure); exact rfl; exact rfl; (intro w'; go_simp; try with_reducible rfl); (simp only [Act.put, zA, zB, zC])))
                ((with_reducible apply wpHeld_loud); exact rfl; go_wp2_with ((go_at_call 122; go_must ((with_reducible refine (FF.out _ _ HO).mono ?_); rintro e w ⟨rfl, hb⟩; replace HO := HO.call hb; clear hb))))
                refine ⟨HO.heldO (by with_reducible (repeat (first | exact List.nil_sublist _ | apply List.Sublist.cons_cons))), ?_⟩
                refine wpHeld_end ?_
                go_wp2_with (first | ((with_reducible apply wpList_loadAt HO); exact rfl; exact rfl; exact (fun w' h1 => hst.out w' h1.grown); infer_instance; exact rfl; exact rfl; (simp only [Act.put, zA, zB, zC])) | ((with_reducible apply wpList_loadAt HO); exact rfl; exact rfl; exact (fun w' h1 => hste.out w' h1.grown); infer_instance; exact rfl; exact rfl; (simp only [Act.put, zA, zB, zC])) | (go_at_call 123; go_must ((with_reducible refine (CG.out _).mono ?_); rintro e w ⟨rfl, hb⟩; replace HO := HO.call hb; clear hb)) | (go_at_call 28; go_must ((with_reducible refine (AA.out _ _ HO).mono ?_); clear HO; rintro e w ⟨ev, rfl, x9, N9, hx9, HO, hR9⟩; replace hx9 := Lib.hid hx9; replace hR9 := Lib.hid hR9)))
                go_roundw
                case rel => exact ⟨k + 1, j' + 1, x9, N9, by omega, by go_num, by go_num, hjl, hx9.out, hR9.out, HY1.out, HO⟩
                case measure => simp [intOf] <;> omega
              | false =>
                rw [if_neg (by rw [← hcz.out]; simp)] at HY1
                go_upto_region 10 with (first | (((with_reducible apply wpList_allocAgg _ HO rfl); exact rfl; infer_instance; exact rfl; clear HO; intro b8 w HO; (simp only [Act.put, zA, zB, zC]))) | ((with_reducible apply wpList_loadAt HO); exact rfl; exact rfl; exact (fun w' h1 => hste.out w' h1.grown); infer_instance; exact rfl; exact rfl; (simp only [Act.put, zA, zB, zC])) | ((with_reducible apply wpList_storeAll HO); exact rfl; exact rfl; exact rfl; (repeat (with_reducible (exact At.head _))); infer_instance; exact rfl; exact rfl; exact rfl; exact rfl; clear HO; intro w HO; (simp only [Act.put])))
                refine region_schedO ([box b8 (.cells #[.int .i64 y1, .int .i64 y2, .string ⟨y3.toArray⟩, .string ⟨y4.toArray⟩, .int .i64 y5, .int .i64 y6, .int .i64 y7, .int .i64 y8, .int .i64 y9, .int .i64 y10, .int .i64 y11, .slice vp vn vc] 34)]) [(0, true), (1, true), (2, true), (3, true), (4, true), (5, true), (6, true), (7, true), (8, true), (9, true), (10, false)] HO (by with_reducible (repeat (first | exact List.nil_sublist _ | apply List.Sublist.cons_cons))) (by kernel_rfl) (by kernel_rfl) ?_
                clear HO
                intro w HO
                repeat (first | ((with_reducible apply wpHeld_loadAt); exact rfl; exact rfl; exact rfl; exact (fun w' hw => hst.out w' (hw _ List.mem_cons_self)); infer_instance; exact rfl; exact rfl; (simp only [Act.put, zA, zB, zC])) | ((with_reducible apply wpHeld_loadAll); exact rfl; exact rfl; exact rfl; (repeat (with_reducible (first | exact At.head _ | apply At.tail))); infer_instance; exact rfl; exact rfl; (simp only [Act.put, zA, zB, zC])) | ((with_reducible apply wpHeld_pure); exact rfl; exact rfl; (intro w'; go_simp; try with_reducible rfl); (simp only [Act.put, zA, zB, zC])))
                ((with_reducible apply wpHeld_loud); exact rfl; go_wp2_with ((go_at_call 122; go_must ((with_reducible refine (FF.out _ _ HO).mono ?_); rintro e w ⟨rfl, hb⟩; replace HO := HO.call hb; clear hb))))
                refine ⟨HO.heldO (by with_reducible (repeat (first | exact List.nil_sublist _ | apply List.Sublist.cons_cons))), ?_⟩
                refine wpHeld_end ?_
                go_wp2_with (first | ((with_reducible apply wpList_loadAt HO); exact rfl; exact rfl; exact (fun w' h1 => hst.out w' h1.grown); infer_instance; exact rfl; exact rfl; (simp only [Act.put, zA, zB, zC])) | (go_at_call 123; go_must ((with_reducible refine (CG.out _).mono ?_); rintro e w ⟨rfl, hb⟩; replace HO := HO.call hb; clear hb)))
                go_roundw
                case rel => exact ⟨k + 1, j', x', N, by omega, by go_num, rfl, hj', HXR.out, HRN.out, HY1.out, HO.tail⟩
                case measure => simp [intOf] <;> omega
            | false =>
              rw [hb] at FF
              have HN2 := Lib.hid (HGJ.out.trans (goesH_no hjl hb))
              clear hb
              go_upto_region 10 with (first | (((with_reducible apply wpList_allocAgg _ HO rfl); exact rfl; infer_instance; exact rfl; clear HO; intro b8 w HO; (simp only [Act.put, zA, zB, zC]))) | ((with_reducible apply wpList_loadAt HO); exact rfl; exact rfl; exact (fun w' h1 => hste.out w' h1.grown); infer_instance; exact rfl; exact rfl; (simp only [Act.put, zA, zB, zC])) | ((with_reducible apply wpList_storeAll HO); exact rfl; exact rfl; exact rfl; (repeat (with_reducible (exact At.head _))); infer_instance; exact rfl; exact rfl; exact rfl; exact rfl; clear HO; intro w HO; (simp only [Act.put])))
              refine region_schedO ([box b8 (.cells #[.int .i64 y1, .int .i64 y2, .string ⟨y3.toArray⟩, .string ⟨y4.toArray⟩, .int .i64 y5, .int .i64 y6, .int .i64 y7, .int .i64 y8, .int .i64 y9, .int .i64 y10, .int .i64 y11, .slice vp vn vc] 34)]) [(0, true), (1, true), (2, true), (3, true), (4, true), (5, true), (6, true), (7, true), (8, true), (9, true), (10, false)] HO (by with_reducible (repeat (first | exact List.nil_sublist _ | apply List.Sublist.cons_cons))) (by kernel_rfl) (by kernel_rfl) ?_
              clear HO
              intro w HO
              repeat (first | ((with_reducible apply wpHeld_loadAt); exact rfl; exact rfl; exact rfl; exact (fun w' hw => hst.out w' (hw _ List.mem_cons_self)); infer_instance; exact rfl; exact rfl; (simp only [Act.put, zA, zB, zC])) | ((with_reducible apply wpHeld_loadAll); exact rfl; exact rfl; exact rfl; (repeat (with_reducible (first | exact At.head _ | apply At.tail))); infer_instance; exact rfl; exact rfl; (simp only [Act.put, zA, zB, zC])) | ((with_reducible apply wpHeld_pure); exact rfl; exact rfl; (intro w'; go_simp; try with_reducible rfl); (simp only [Act.put, zA, zB, zC])))
              ((with_reducible apply wpHeld_loud); exact rfl; go_wp2_with ((go_at_call 122; go_must ((with_reducible refine (FF.out _ _ HO).mono ?_); rintro e w ⟨rfl, hb⟩; replace HO := HO.call hb; clear hb))))
              refine ⟨HO.heldO (by with_reducible (repeat (first | exact List.nil_sublist _ | apply List.Sublist.cons_cons))), ?_⟩
              refine wpHeld_end ?_
              go_wp2_with (first | (((with_reducible apply wpList_loadAll HO); exact rfl; exact rfl; (repeat (with_reducible (exact At.head _))); infer_instance; exact rfl; exact rfl; (simp only [Act.put, zA, zB, zC]))) | (go_at_call 28; go_must ((with_reducible refine (AA.out _ _ HO).mono ?_); clear HO; rintro e w ⟨ev, rfl, x9, N9, hx9, HO, hR9⟩; replace hx9 := Lib.hid hx9; replace hR9 := Lib.hid hR9)))
              go_roundw
              case rel => exact ⟨j' + 1, x9, N9, by go_num, hjl, hx9.out, hR9.out, HN2.out, HO⟩
              case measure => simp [intOf] <;> omega
          · obtain rfl : j' = X.length := by omega
            have hnE : ((X.length : Int) == (es.length : Int)) = true := by rw [beq_iff_eq]; omega
            have hjI : ¬ (X.length : Int) < (es.length : Int) := by omega
            have FF := fun (w : World) (Z : Ent) (h : Own W w (Z :: rcB x' (stAt X X.length).2 :: N)) => HFE.out w _ N x' h HRN.out (fun e he => List.mem_cons_of_mem _ (List.mem_cons_of_mem _ he)) (List.mem_cons_of_mem _ List.mem_cons_self)
            rw [HXR.out] at FF
            replace FF := Lib.hid FF
            cases hb : fitsB X X.length z with
            | true =>
              rw [hb] at FF
              have HY1 := Lib.hid (HG1.out _ (HGJ.out.trans (goesH_yes (X.length - X.length) hb)))
              cases cz with
              | true =>
                have := chg_more hb hcz.out.symm
                omega
              | false =>
                clear hb
                rw [if_neg (by rw [← hcz.out]; simp)] at HY1
                go_upto_region 10 with ((((with_reducible apply wpList_allocAgg _ HO rfl); exact rfl; infer_instance; exact rfl; clear HO; intro b8 w HO; (simp only [Act.put, zA, zB, zC]))))
                refine region_schedO ([box b8 (.cells #[.int .i64 0, .int .i64 0, .string ⟨#[]⟩, .string ⟨#[]⟩, .int .i64 0, .int .i64 0, .int .i64 0, .int .i64 0, .int .i64 0, .int .i64 0, .int .i64 0, .slice none 0 0] 34)]) [(0, true), (1, true), (2, true), (3, true), (4, true), (5, true), (6, true), (7, true), (8, true), (9, true), (10, false)] HO (by with_reducible (repeat (first | exact List.nil_sublist _ | apply List.Sublist.cons_cons))) (by kernel_rfl) (by kernel_rfl) ?_
                clear HO
                intro w HO
                repeat (first | ((with_reducible apply wpHeld_loadAt); exact rfl; exact rfl; exact rfl; exact (fun w' hw => hst.out w' (hw _ List.mem_cons_self)); infer_instance; exact rfl; exact rfl; (simp only [Act.put, zA, zB, zC])) | ((with_reducible apply wpHeld_loadAll); exact rfl; exact rfl; exact rfl; (repeat (with_reducible (first | exact At.head _ | apply At.tail))); infer_instance; exact rfl; exact rfl; (simp only [Act.put, zA, zB, zC])) | ((with_reducible apply wpHeld_pure); exact rfl; exact rfl; (intro w'; go_simp; try with_reducible rfl); (simp only [Act.put, zA, zB, zC])))
                ((with_reducible apply wpHeld_loud); exact rfl; go_wp2_with ((go_at_call 122; go_must ((with_reducible refine (FF.out _ _ HO).mono ?_); rintro e w ⟨rfl, hb⟩; replace HO := HO.call hb; clear hb))))
                refine ⟨HO.heldO (by with_reducible (repeat (first | exact List.nil_sublist _ | apply List.Sublist.cons_cons))), ?_⟩
                refine wpHeld_end ?_
                go_wp2_with (first | ((with_reducible apply wpList_loadAt HO); exact rfl; exact rfl; exact (fun w' h1 => hst.out w' h1.grown); infer_instance; exact rfl; exact rfl; (simp only [Act.put, zA, zB, zC])) | (go_at_call 123; go_must ((with_reducible refine (CG.out _).mono ?_); rintro e w ⟨rfl, hb⟩; replace HO := HO.call hb; clear hb)))
                go_roundw
                case rel => exact ⟨k + 1, X.length, x', N, by omega, by go_num, by rw [hXe], Nat.le_refl _, HXR.out, HRN.out, HY1.out, HO.tail⟩
                case measure => simp [intOf] <;> omega
            | false =>
              rw [hb] at FF
              have HZ1 := Lib.hid (HN1.out (HGJ.out.trans (goesH_end hb)))
              clear hb
              go_upto_region 10 with ((((with_reducible apply wpList_allocAgg _ HO rfl); exact rfl; infer_instance; exact rfl; clear HO; intro b8 w HO; (simp only [Act.put, zA, zB, zC]))))
              refine region_schedO ([box b8 (.cells #[.int .i64 0, .int .i64 0, .string ⟨#[]⟩, .string ⟨#[]⟩, .int .i64 0, .int .i64 0, .int .i64 0, .int .i64 0, .int .i64 0, .int .i64 0, .int .i64 0, .slice none 0 0] 34)]) [(0, true), (1, true), (2, true), (3, true), (4, true), (5, true), (6, true), (7, true), (8, true), (9, true), (10, false)] HO (by with_reducible (repeat (first | exact List.nil_sublist _ | apply List.Sublist.cons_cons))) (by kernel_rfl) (by kernel_rfl) ?_
              clear HO
              intro w HO
              repeat (first | ((with_reducible apply wpHeld_loadAt); exact rfl; exact rfl; exact rfl; exact (fun w' hw => hst.out w' (hw _ List.mem_cons_self)); infer_instance; exact rfl; exact rfl; (simp only [Act.put, zA, zB, zC])) | ((with_reducible apply wpHeld_loadAll); exact rfl; exact rfl; exact rfl; (repeat (with_reducible (first | exact At.head _ | apply At.tail))); infer_instance; exact rfl; exact rfl; (simp only [Act.put, zA, zB, zC])) | ((with_reducible apply wpHeld_pure); exact rfl; exact rfl; (intro w'; go_simp; try with_reducible rfl); (simp only [Act.put, zA, zB, zC])))
              ((with_reducible apply wpHeld_loud); exact rfl; go_wp2_with ((go_at_call 122; go_must ((with_reducible refine (FF.out _ _ HO).mono ?_); rintro e w ⟨rfl, hb⟩; replace HO := HO.call hb; clear hb))))
              refine ⟨HO.heldO (by with_reducible (repeat (first | exact List.nil_sublist _ | apply List.Sublist.cons_cons))), ?_⟩
              refine wpHeld_end ?_
              go_wp2_with (fail)
              go_ret
              exact ⟨by rw [HZ1.out]; rfl, HO.grown⟩
    · obtain rfl : k = zs.length := by omega
      have HQ := Lib.hid (show R = -1 by rw [HR.out]; exact checkH_end _ _ _ _)
      clear HR
      go_wp2_with fail
      go_ret
      exact ⟨by rw [HQ.out]; rfl, HO.grown⟩
end Go.Proofs.YtibabfedpdoofaaGreatDoor
namespace Go.Proofs.YtibabfedpdoofaaGreatDoor
open Go.RowKit Go.Own Go.Maps

theorem rhC_len (zs : List HisS) : ∀ l ∈ zs.map rhC, l.length = 23 := fun l hl => by
  obtain ⟨y, _, rfl⟩ := List.mem_map.1 hl
  rfl
theorem ofH_ok {y : HisI} (h : LineOk y) : RLineOk (ofH y.x) := ⟨by
  have h1 := kindH_cases y.x.k
  show kindH y.x.k = 0 ∨ kindH y.x.k = 1 ∨ kindH y.x.k = 2 ∨ kindH y.x.k = 3 ∨ kindH y.x.k = 4
  omega, h.a, h.ref, h.sku⟩

set_option maxHeartbeats 32000000 in
set_option maxRecDepth 100000 in
theorem historyRaw_any {W : World} {vl vj : Value} {ys : List HisI} {es : List EntI} (hY : IsLines W vl ys) (hE : IsEnts W vj es) (hL : LaidE W) :
    Calls Tryz.prog 10 #[vl, vj] W fun e w' => e = .returned (.bool true) ∧ Below W.heap.size W w' := by
  have HO := Own.start W
  have AN := Lib.hid (fun (w : World) (hb : Below W.heap.size W w) => answered_any w (hL.below hb))
  have GR := fun (w : World) (hb : Below W.heap.size W w) => great24_any 30 (hE.below hb)
  obtain ⟨lp, lc, rfl, hml⟩ := hY.l.slice
  rw [List.length_map] at hml hY ⊢
  have hml' : (ys.length : Int) ≤ 9223372036854775807 := by unfold maxLen at hml; omega
  by_cases hb20 : (20 : Int) < (ys.length : Int)
  · have d1 : decide ((20 : Int) < (ys.length : Int)) = true := decide_eq_true hb20
    clear hY hE hL GR hb20
    go_enter Tryz.func10, Tryz.ntmps10
    go_wp2_with ((go_at_call 58; go_must ((with_reducible refine (AN.out _ HO.grown).mono ?_); rintro e w ⟨rfl, hb⟩; replace HO := HO.call hb; clear hb)))
    go_ret
    exact ⟨rfl, HO.grown⟩
  have d1 : decide ((20 : Int) < (ys.length : Int)) = false := decide_eq_false hb20
  have hn20 : ys.length ≤ 20 := by omega
  by_cases hg : greatL es 30 = true
  · rw [hg] at GR
    clear hY hE hL hb20
    go_enter Tryz.func10, Tryz.ntmps10
    go_wp2_with (first | (go_at_call 11; go_must ((with_reducible refine (GR _ HO.grown).mono ?_); rintro e w ⟨rfl, hb⟩; replace HO := HO.call hb; clear hb)) | (go_at_call 58; go_must ((with_reducible refine (AN.out _ HO.grown).mono ?_); rintro e w ⟨rfl, hb⟩; replace HO := HO.call hb; clear hb)))
    go_ret
    exact ⟨rfl, HO.grown⟩
  rw [show greatL es 30 = false by simpa using hg] at GR
  have hes : es.length ≤ 1000 := by
    have h1 : greatL es 30 = false := by simpa using hg
    unfold greatL at h1
    simp only [Bool.or_eq_false_iff, decide_eq_false_iff_not] at h1
    omega
  have CK := Lib.hid (fun (w : World) (hb : Below W.heap.size W w) => check_any (hY.below hb) (hE.below hb) hes (hL.below hb))
  have RC := Lib.hid (fun (w : World) (hb : Below W.heap.size W w) (v : Value) (h : IsL w 23 v ((ys.map (fun y => ofH y.x)).map rhC)) => rCheck_any h (fun z hz => by
    obtain ⟨y, hy, rfl⟩ := List.mem_map.1 hz
    exact ofH_ok (hY.r y hy)) (hE.below hb) hes)
  rw [show ys.map (fun y => ofH y.x) = (ys.map (·.x)).map ofH by rw [List.map_map]; rfl, check_of] at RC
  rw [show (ys.map (·.x)).map ofH = ys.map (fun y => ofH y.x) by rw [List.map_map]; rfl] at RC
  generalize checkH (es.map (·.x)) (ys.map (·.x)) 0 0 = R at *
  have HY := Lib.hid hY.l
  have HYR := Lib.hid hY.r
  obtain ⟨ep, ec, rfl, -⟩ := hE.l.slice
  rw [List.length_map] at CK RC GR ⊢
  clear hY hE hL hg hb20 hes
  go_enter Tryz.func10, Tryz.ntmps10
  replace HO := HO.nil 126 23
  go_wp2_with ((go_at_call 11; go_must ((with_reducible refine (GR _ HO.grown).mono ?_); rintro e w ⟨rfl, hb⟩; replace HO := HO.call hb; clear hb)))
  go_loopw [5, 6] (fun mv iv wr => ∃ k : Nat, k ≤ ys.length ∧ iv = .int .i64 (k : Int) ∧ Own W wr [row 126 23 mv (((ys.take k).map (fun y => ofH y.x)).map rhC)]) (fun _ iv _ => ys.length - (intOf iv).toNat)
  case atStart => exact ⟨0, by omega, rfl, HO⟩
  case round =>
    clear HO
    obtain ⟨k, hk, rfl, HO⟩ := hrel
    obtain ⟨⟨p8, c8, rfl⟩, -⟩ := HO.rowForm (.head _)
    by_cases hkl : k < ys.length
    · have hkI : (k : Int) < (ys.length : Int) := by omega
      have htk : ((((ys.take k).map (fun y => ofH y.x)).map rhC).length) = k := by simp; omega
      rw [htk] at HO ⊢
      obtain ⟨q, rfl, hst⟩ := oldAt HY.out rfl hkl
      have hy := HYR.out _ (List.getElem_mem hkl)
      have HTK := Lib.hid (show ((ys.take k).map (fun y => ofH y.x)).map rhC ++ [rhC (ofH ys[k].x)] = ((ys.take (k + 1)).map (fun y => ofH y.x)).map rhC by
        rw [List.take_succ_eq_append_getElem hkl, List.map_append, List.map_append]
        rfl)
      have hp1 : (((ys.take k).map (fun y => ofH y.x)).map rhC).length + 1 ≤ 1000000 := by omega
      generalize ys[k] = y at *
      have OF := fun w => of_any y w
      have TK := fun w => takes_any y w
      have RT := fun w => rtakes_any (ofH y.x) (ofH_ok hy).k w
      rw [takes_of] at RT
      obtain ⟨A, hA⟩ : ∃ A, A = ((ys.take k).map (fun y => ofH y.x)).map rhC := ⟨_, rfl⟩
      obtain ⟨B, hB⟩ : ∃ B, B = ((ys.take (k + 1)).map (fun y => ofH y.x)).map rhC := ⟨_, rfl⟩
      rw [← hB] at HTK
      replace hB := Lib.hid hB
      rw [← hA] at HO htk HTK hp1
      have hAl := Lib.hid (show ∀ l ∈ A ++ [rhC (ofH y.x)], l.length = 23 by
        intro l hl
        rcases List.mem_append.1 hl with hl | hl
        · rw [hA] at hl
          exact rhC_len _ _ hl
        · rw [List.mem_singleton.1 hl]; rfl)
      have l1 := hy.ref
      have l2 := hy.sku
      have l3 := hy.sref
      unfold maxLen at l1 l2 l3
      obtain ⟨x, t, kp, kn, kc, r0, r1, r2, dp, dn, dc⟩ := y
      simp only [hisC] at OF TK hst
      simp only at RT HTK hAl l1 l2 l3
      generalize ofH x = z at *
      unfold rhC at OF RT HTK hAl
      generalize takesH x = tb at *
      have s1 := Lib.hid (fun w' (h1 : Below W.heap.size W w') => hst w' h1 2 _ rfl)
      have s2 := Lib.hid (fun w' (h1 : Below W.heap.size W w') => hst w' h1 3 _ rfl)
      have s3 := Lib.hid (fun w' (h1 : Below W.heap.size W w') => hst w' h1 17 _ rfl)
      replace hst := Lib.hid hst
      replace htk := Lib.hid htk
      replace hA := Lib.hid hA
      clear hy
      have hkk : k + 1 ≤ 1000000 := by omega
      cases e1 : decide ((200 : Int) < (x.o.ref.length : Int)) with
      | true =>
        go_wp2_with (first | ((with_reducible apply wpList_loadAt1 HO); exact rfl; exact rfl; exact (fun w' h1 => s1.out w' h1.grown); infer_instance; exact rfl; (simp only [Act.put, zA, zB, zC])) | (go_at_call 58; go_must ((with_reducible refine (AN.out _ HO.grown).mono ?_); rintro e w ⟨rfl, hb⟩; replace HO := HO.call hb; clear hb)))
        go_ret
        exact ⟨rfl, HO.grown⟩
      | false =>
        cases e2 : decide ((200 : Int) < (x.o.sku.length : Int)) with
        | true =>
          go_wp2_with (first | ((with_reducible apply wpList_loadAt1 HO); exact rfl; exact rfl; exact (fun w' h1 => s1.out w' h1.grown); infer_instance; exact rfl; (simp only [Act.put, zA, zB, zC])) | ((with_reducible apply wpList_loadAt1 HO); exact rfl; exact rfl; exact (fun w' h1 => s2.out w' h1.grown); infer_instance; exact rfl; (simp only [Act.put, zA, zB, zC])) | (go_at_call 58; go_must ((with_reducible refine (AN.out _ HO.grown).mono ?_); rintro e w ⟨rfl, hb⟩; replace HO := HO.call hb; clear hb)))
          go_ret
          exact ⟨rfl, HO.grown⟩
        | false =>
          cases e3 : decide ((200 : Int) < (x.so.ref.length : Int)) with
          | true =>
            go_wp2_with (first | ((with_reducible apply wpList_loadAt1 HO); exact rfl; exact rfl; exact (fun w' h1 => s1.out w' h1.grown); infer_instance; exact rfl; (simp only [Act.put, zA, zB, zC])) | ((with_reducible apply wpList_loadAt1 HO); exact rfl; exact rfl; exact (fun w' h1 => s2.out w' h1.grown); infer_instance; exact rfl; (simp only [Act.put, zA, zB, zC])) | ((with_reducible apply wpList_loadAt1 HO); exact rfl; exact rfl; exact (fun w' h1 => s3.out w' h1.grown); infer_instance; exact rfl; (simp only [Act.put, zA, zB, zC])) | (go_at_call 58; go_must ((with_reducible refine (AN.out _ HO.grown).mono ?_); rintro e w ⟨rfl, hb⟩; replace HO := HO.call hb; clear hb)))
            go_ret
            exact ⟨rfl, HO.grown⟩
          | false =>
            go_upto_region 10 with (first | ((with_reducible apply wpList_loadAt1 HO); exact rfl; exact rfl; exact (fun w' h1 => s1.out w' h1.grown); infer_instance; exact rfl; (simp only [Act.put, zA, zB, zC])) | ((with_reducible apply wpList_loadAt1 HO); exact rfl; exact rfl; exact (fun w' h1 => s2.out w' h1.grown); infer_instance; exact rfl; (simp only [Act.put, zA, zB, zC])) | ((with_reducible apply wpList_loadAt1 HO); exact rfl; exact rfl; exact (fun w' h1 => s3.out w' h1.grown); infer_instance; exact rfl; (simp only [Act.put, zA, zB, zC])) | ((with_reducible apply wpList_loadAt HO); exact rfl; exact rfl; exact (fun w' h1 => hst.out w' h1.grown); infer_instance; exact rfl; exact rfl; (simp only [Act.put, zA, zB, zC])) | (go_at_call 59; go_must ((with_reducible refine (OF _).mono ?_); rintro e w ⟨rfl, hb⟩; replace HO := HO.call hb; clear hb)) | (((with_reducible apply wpList_lit1 HO); exact rfl; infer_instance; infer_instance; exact rfl; exact rfl; exact (by decide); exact rfl; clear HO; intro bl w HO; (simp only [Act.put, zA, zB, zC]))) | ((with_reducible apply wpList_push1 HO); exact rfl; infer_instance; infer_instance; ((simp [Act.eval]; rfl)); exact rfl; intro _; (repeat (with_reducible (exact At.head _))); exact rfl; exact rfl; (omega); decide; exact rfl; clear HO; intro v2 w HO hv2; (simp only [Act.put, zA, zB, zC])))
            clear hv2
            obtain ⟨q2, c2, hv2⟩ := (HO.rowForm (.head _)).2 (by simp)
            subst hv2
            rw [show (A ++ [[Value.int .i64 z.k, .int .i64 z.a, .int .i64 z.b, .int .i64 z.o.id, .string ⟨z.o.ref.toArray⟩, .string ⟨z.o.sku.toArray⟩, .int .i64 z.o.qty, .int .i64 z.o.amt, .int .i64 z.err, .int .i64 z.id, .int .i64 z.amt, .int .i64 z.so.id, .string ⟨z.so.ref.toArray⟩, .string ⟨z.so.sku.toArray⟩, .int .i64 z.so.qty, .int .i64 z.so.amt, .int .i64 z.sd.a, .int .i64 z.sd.b, .int .i64 z.sd.c, .int .i64 z.sd.d, .int .i64 z.sd.e, .int .i64 z.sd.f, .bool z.sd.x]]).length = k + 1 by simp [htk.out]] at HO ⊢
            have hk1I : (k : Int) < (k : Int) + 1 := by omega
            have hk1J : (k : Int) < ((k + 1 : Nat) : Int) := by omega
            have RW := Lib.hid (fun (w' : World) (hF : (row 126 23 (.slice (some q2) (k + 1) c2) (A ++ [[Value.int .i64 z.k, .int .i64 z.a, .int .i64 z.b, .int .i64 z.o.id, .string ⟨z.o.ref.toArray⟩, .string ⟨z.o.sku.toArray⟩, .int .i64 z.o.qty, .int .i64 z.o.amt, .int .i64 z.err, .int .i64 z.id, .int .i64 z.amt, .int .i64 z.so.id, .string ⟨z.so.ref.toArray⟩, .string ⟨z.so.sku.toArray⟩, .int .i64 z.so.qty, .int .i64 z.so.amt, .int .i64 z.sd.a, .int .i64 z.sd.b, .int .i64 z.sd.c, .int .i64 z.sd.d, .int .i64 z.sd.e, .int .i64 z.sd.f, .bool z.sd.x]])).F w') => show ∀ (i : Nat) (u : Value), [Value.int .i64 z.k, .int .i64 z.a, .int .i64 z.b, .int .i64 z.o.id, .string ⟨z.o.ref.toArray⟩, .string ⟨z.o.sku.toArray⟩, .int .i64 z.o.qty, .int .i64 z.o.amt, .int .i64 z.err, .int .i64 z.id, .int .i64 z.amt, .int .i64 z.so.id, .string ⟨z.so.ref.toArray⟩, .string ⟨z.so.sku.toArray⟩, .int .i64 z.so.qty, .int .i64 z.so.amt, .int .i64 z.sd.a, .int .i64 z.sd.b, .int .i64 z.sd.c, .int .i64 z.sd.d, .int .i64 z.sd.e, .int .i64 z.sd.f, .bool z.sd.x][i]? = some u → w'.cell? ((q2.add (k * 23)).add i) = some u from fun i u hu => cellH (isL_of_owns hAl.out hF) (j := k) (by simp [htk.out]) i u (by rw [List.getElem_append_right (by rw [htk.out]; omega)]; simpa [htk.out] using hu))
            refine region_schedO ([row 126 23 (.slice (some q2) (k + 1) c2) (A ++ [[Value.int .i64 z.k, .int .i64 z.a, .int .i64 z.b, .int .i64 z.o.id, .string ⟨z.o.ref.toArray⟩, .string ⟨z.o.sku.toArray⟩, .int .i64 z.o.qty, .int .i64 z.o.amt, .int .i64 z.err, .int .i64 z.id, .int .i64 z.amt, .int .i64 z.so.id, .string ⟨z.so.ref.toArray⟩, .string ⟨z.so.sku.toArray⟩, .int .i64 z.so.qty, .int .i64 z.so.amt, .int .i64 z.sd.a, .int .i64 z.sd.b, .int .i64 z.sd.c, .int .i64 z.sd.d, .int .i64 z.sd.e, .int .i64 z.sd.f, .bool z.sd.x]])]) [(0, true), (1, true), (2, true), (3, true), (5, true), (6, true), (7, true), (8, true), (4, false), (9, false), (10, true)] HO (by with_reducible (repeat (first | exact List.nil_sublist _ | apply List.Sublist.cons_cons))) (by kernel_rfl) (by kernel_rfl) ?_
            clear HO
            intro w HO
            repeat (first | ((with_reducible apply wpHeld_loadAt); exact rfl; exact rfl; exact rfl; exact (fun w' hw => hst.out w' (hw _ List.mem_cons_self)); infer_instance; exact rfl; exact rfl; (simp only [Act.put, zA, zB, zC])) | ((with_reducible apply wpHeld_loadAt); exact rfl; exact rfl; exact rfl; exact (fun w' hw => RW.out w' (hw _ (.tail _ List.mem_cons_self))); infer_instance; exact rfl; exact rfl; (simp only [Act.put, zA, zB, zC])) | ((with_reducible apply wpHeld_pure); exact rfl; exact rfl; (intro w'; go_simp; try with_reducible rfl); (simp only [Act.put, zA, zB, zC])))
            ((with_reducible apply wpHeld_loud); exact rfl; go_wp2_with ((go_at_call 60; go_must ((with_reducible refine (TK _).mono ?_); rintro e w ⟨rfl, hb⟩; replace HO := HO.call hb; clear hb))))
            refine ⟨HO.heldO (by with_reducible (repeat (first | exact List.nil_sublist _ | apply List.Sublist.cons_cons))), ?_⟩
            ((with_reducible apply wpHeld_loud); exact rfl; go_wp2_with ((go_at_call 61; go_must ((with_reducible refine (RT _).mono ?_); rintro e w ⟨rfl, hb⟩; replace HO := HO.call hb; clear hb))))
            refine ⟨HO.heldO (by with_reducible (repeat (first | exact List.nil_sublist _ | apply List.Sublist.cons_cons))), ?_⟩
            repeat ((with_reducible apply wpHeld_pure); exact rfl; exact rfl; (intro w'; go_simp; try with_reducible rfl); (simp only [Act.put, zA, zB, zC]))
            refine wpHeld_end ?_
            have hbb : (tb != tb) = false := by cases tb <;> rfl
            go_wp2_with fail
            go_roundw
            case rel => exact ⟨k + 1, by omega, by go_num, by rw [← hB.out, ← HTK.out]; exact HO⟩
            case measure => simp [intOf] <;> omega
    · obtain rfl : k = ys.length := by omega
      rw [List.take_length, show (((ys.map (fun y => ofH y.x)).map rhC).length) = ys.length by simp] at HO
      have HM := Lib.hid (show ∀ (w' : World) (L' : List Ent) (v : Value), Own W w' L' → row 126 23 v ((ys.map (fun y => ofH y.x)).map rhC) ∈ L' → Calls Tryz.prog 63 #[v, .slice ep es.length ec] w' fun e w'' => e = .returned (.int .i64 R) ∧ Below w'.heap.size w' w'' from fun w' L' v h hm => RC.out w' h.grown v (isL_of_owns (rhC_len _) (h.has _ hm)))
      go_wp2_with (first | (go_at_call 62; go_must ((with_reducible refine (CK.out _ HO.grown).mono ?_); rintro e w ⟨rfl, hb⟩; replace HO := HO.call hb; clear hb)) | (go_at_call 63; go_must ((with_reducible refine (HM.out _ _ _ HO List.mem_cons_self).mono ?_); rintro e w ⟨rfl, hb⟩; replace HO := HO.call hb; clear hb)) | (go_at_call 58; go_must ((with_reducible refine (AN.out _ HO.grown).mono ?_); rintro e w ⟨rfl, hb⟩; replace HO := HO.call hb; clear hb)))
      go_ret
      exact ⟨rfl, HO.grown⟩
end Go.Proofs.YtibabfedpdoofaaGreatDoor
namespace Go.Own
open Go.RowKit Go.ChangeShapes Go.WideShapes

theorem trodAll_below {H : Type} {enc : TypeId × Value → H} {P : Program} (hl : laidOutB P = true) {W W' : World} (hb : Below W.heap.size W W') :
    ∀ {ts : List TypeId} {vs : List Value} {ds : List (DataW H)} {ps : List MemPlace}, (∀ t ∈ ts, P.readableRec t = true ∧ t < P.types.size) → (∀ p ∈ ps, p.block < W.heap.size) →
      DataW.TrodAll enc P W 0 (fun _ => true) true ts vs ds ps → DataW.TrodAll enc P W' 0 (fun b => decide (b < W.heap.size)) true ts vs ds ps
  | [], _, _, _, _, _, h => by
    obtain ⟨rfl, rfl, rfl⟩ := trodAll_nil h
    exact trodAll_mk0
  | t :: ts, _, _, _, hr, hp, h => by
    obtain ⟨v, vs1, d, ds1, a, b, rfl, rfl, rfl, h1, h2⟩ := trodAll_cons h
    have ht := hr t List.mem_cons_self
    exact trodAll_cons_mk (Below.trod hl ht.1 ht.2 h1 hb (fun x hx => hp x (List.mem_append_left _ hx)))
      (trodAll_below hl hb (fun u hu => hr u (List.mem_cons_of_mem _ hu)) (fun x hx => hp x (List.mem_append_right _ hx)) h2)

/-- A law's post, from what the walk says: it returns true, and nothing that was there has changed. -/
theorem law_post {H : Type} {enc : TypeId × Value → H} {P : Program} {f : Func} {s : ChangeSpec} {W W' : World} {args : Array Value} {ds gs : List (DataW H)} {before : List MemPlace} {tb : TypeId}
    (hl : laidOutB P = true) (hrd : (f.params.toList.all fun t => P.readableRec t && decide (t < P.types.size)) = true) (hres : f.resultTypes = #[tb]) (htb : P.underlying tb = some .bool) (hvars : s.vars = [])
    (hW : DataW.Whole enc P f.params.toList s.vars false W args.toList ds gs before) (hfn : s.fn H (ds ++ gs) = { results := [.lit (.bool true)], args := ds }) (hb : Below W.heap.size W W') :
    s.post enc P f false true false false W args (.bool true) W' := by
  have hlt := hW.lt
  have hW0 := hW
  obtain ⟨p, q, hA, hV, rfl, hfz, hnd⟩ := hW
  rw [hvars] at hV
  obtain ⟨rfl, rfl⟩ := trodVars_none hV
  have hr : ∀ t ∈ f.params.toList, P.readableRec t = true ∧ t < P.types.size := fun t ht => by
    have := List.all_eq_true.1 hrd t ht
    simpa using this
  refine ⟨ds, [], _, [], p, [], hW0, ?_, ?_, ?_, hb.frame _, fun h => by cases h⟩
  · rw [hfn, hres]
    exact trodAll_mk1 (shut_bool htb true)
  · rw [hfn]
    exact trodAll_below hl hb hr (fun x hx => hlt x (List.mem_append_left _ hx)) hA
  · rw [hfn, hvars]
    rfl
theorem fld {H : Type} {enc : TypeId × Value → H} {P : Program} {w : World} {base : Nat} {spare : Nat → Bool} {held : Bool} {fuel : Nat} {t : TypeId} {fs : Array Field} {cs : List Value} {x : DataW H × List MemPlace}
    (ht : P.underlying t = some (.struct fs)) (h : DataW.trod enc P w base spare held fuel t cs = some x) (j : Nat) (f : Field) (hj : fs[j]? = some f) :
    ∃ n y, DataW.trod enc P w base spare held n f.type ((cs.drop f.offset).take (P.cellsOf f.type)) = some y := by
  obtain ⟨xs, n, _, _, _, hlen, hg⟩ := DataW.trod_struct ht h
  have hlt : j < xs.length := by rw [hlen]; exact (Array.getElem?_eq_some_iff.1 hj).1
  exact ⟨n, xs[j], by rw [hg j f hj]; exact List.getElem?_eq_getElem hlt⟩
theorem five {l : List Value} (h : l.length = 5) : ∃ a b c d e, l = [a, b, c, d, e] := by
  match l, h with
  | [a, b, c, d, e], _ => exact ⟨a, b, c, d, e, rfl⟩
end Go.Own
namespace Go.Own
open Go.RowKit Go.Maps Go.WideElems Go.WideShapes

/-- A table at any place of the list. -/
theorem tab_of {P : Program} {W : World} {name : String} {k : IntKind} {zs : List Int} {rest : List (String × DataW Unit)} {ps : List MemPlace} {g : Nat} {t e : TypeId} {n : Nat}
    (hg : P.globalNamed name = some g) (hty : (P.globals[g]?).map (·.type) = some t) (ht : P.underlying t = some (.array n e)) (he : P.underlying e = some (.int k)) (hce : P.cellsOf e = 1) (hct : P.cellsOf t = n)
    (h : DataW.LaidVars P W ((name, Lib.tabData k zs) :: rest) ps) : Lib.TabIs P W name k zs := by
  obtain ⟨g', t', cs, fuel, p, q, hg', ht', hvar, hd, _, _⟩ := h
  obtain rfl := Option.some.inj (hg.symm.trans hg')
  obtain rfl := Option.some.inj (hty.symm.trans ht')
  unfold Lib.TabIs
  rw [hvar, ← Lib.cells_of_tab ht he hce hct hd]
theorem tail_of {P : Program} {W : World} {x : String × DataW Unit} {rest : List (String × DataW Unit)} {ps : List MemPlace} (h : DataW.LaidVars P W (x :: rest) ps) : ∃ qs, DataW.LaidVars P W rest qs := by
  obtain ⟨_, _, _, _, _, q, _, _, _, _, h, _⟩ := h
  exact ⟨q, h⟩
/-- A map of texts to numbers that is laid, as a map's own piece. -/
theorem map_laid {P : Program} {W : World} {k e : TypeId} {kd : IntKind} {fuel b : Nat} {es : Array MapEntry} {clock : Nat} {sp : Nat → Bool} {held : Bool} {base : Nat} {E : List (Lit × DataW Unit)} {f : Lit → Option Value} (K : WideMaps.KeyLaw P k)
    (he : P.underlying e = some (.int kd)) (hb : W.heap[b]? = some (.map es clock)) (F : Fit P k (elemAt (fun _ => ()) P W base sp held fuel e) es clock)
    (hE : E = (es.toList.map (rg P k (elemAt (fun _ => ()) P W base sp held fuel e))).foldr DataW.insert [])
    (h1 : ∀ l d, (l, d) ∈ E → ∃ n, d = .lit (.int kd n) ∧ f l = some (.int kd n)) (h2 : ∀ l, (f l).isSome = true → ∃ d, (l, d) ∈ E) : (mapE P k b es.size f).F W := by
  have key : ∀ x ∈ es.toList, ∃ l n, keyOf P k x.key = some l ∧ x.val = .int kd n ∧ f l = some (.int kd n) ∧ rd (H := Value) P k tokR x = some (l, .held (.int kd n)) ∧ (l, DataW.lit (.int kd n)) ∈ E := fun x hx => by
    obtain ⟨y, hy⟩ := F.reads x hx
    have hk := rd_key hy
    have hm : y ∈ E := by
      rw [hE]
      refine (sorted_perm _).symm.subset (List.mem_map.2 ⟨x, hx, rg_of hy⟩)
    obtain ⟨n, hd, hf⟩ := h1 y.1 y.2 hm
    have hv : x.val = .int kd n := by
      unfold rd at hy
      rw [hk] at hy
      simp only [Option.bind_some, Option.map_eq_some_iff] at hy
      obtain ⟨z, hz, hzy⟩ := hy
      have hz1 : z.1 = y.2 := congrArg Prod.snd hzy
      unfold elemAt at hz
      split at hz
      · rename_i hform
        obtain ⟨n', e1, e2, _⟩ := DataW.trod_int he hz
        rw [← hz1, e2] at hd
        simp only [DataW.lit.injEq, Lit.int.injEq, true_and] at hd
        subst hd
        unfold Value.formed at hform
        rw [he] at hform
        cases hxv : x.val <;> rw [hxv] at e1 hform <;> simp_all [Value.cells]
      · cases hz
    refine ⟨y.1, n, hk, hv, hf, ?_, by rw [← hd]; exact hm⟩
    unfold rd
    rw [hk, hv]
    rfl
  have F' : Fit P k (tokR) es clock := ⟨F.size, F.stamped, fun x hx => by
    obtain ⟨l, n, _, _, _, h, _⟩ := key x hx
    exact ⟨_, h⟩⟩
  refine ⟨_, ⟨es, clock, hb, F', Nat.le_refl _, rfl⟩, ⟨_, rfl⟩, fun l hl z => ?_⟩
  have hs := atKey_sorted (es.toList.map (rg P k tokR)) (Go.ChangeMaps.rising_of_pairwise _ (Go.ChangeMaps.sorted_sorted _ (F'.strKeys K) (F'.apart K))) l hl
  by_cases hh : ∃ x ∈ es.toList, keyOf P k x.key = some l
  · obtain ⟨x, hx, hk⟩ := hh
    obtain ⟨l', n, hk', _, hf, hr, _⟩ := key x hx
    obtain rfl := Option.some.inj (hk.symm.trans hk')
    rw [hf]
    exact hs.2 (l, .held (.int kd n)) (List.mem_map.2 ⟨x, hx, rg_of hr⟩) rfl z
  · have hn : f l = none := by
      cases hfl : f l with
      | none => rfl
      | some v =>
        obtain ⟨d, hd⟩ := h2 l (by rw [hfl]; rfl)
        rw [hE] at hd
        obtain ⟨x, hx, hxe⟩ := List.mem_map.1 ((sorted_perm _).subset hd)
        obtain ⟨y, hy⟩ := F.reads x hx
        rw [rg_of hy] at hxe
        subst hxe
        exact absurd ⟨x, hx, rd_key hy⟩ hh
    rw [hn]
    refine hs.1 (fun p hp => ?_) z
    obtain ⟨x, hx, rfl⟩ := List.mem_map.1 hp
    obtain ⟨l', n, hk', _, _, hr, _⟩ := key x hx
    rw [rg_of hr]
    intro e
    exact hh ⟨x, hx, by rw [hk']; exact congrArg some e⟩
end Go.Own
namespace Go.Proofs.YtibabfedpdoofaaGreatDoor
open Go.RowKit Go.Own Go.Maps Go.WideElems Go.ChangeShapes Go.WideShapes

theorem own : ownKnob Tryz.prog.godebug = none := by kernel_rfl
theorem laidOut : laidOutB Tryz.prog = true := by kernel_rfl
theorem gTab : Tryz.prog.globalNamed "consignor/keys.parties" = some 2 := by kernel_rfl
theorem gTabType : (Tryz.prog.globals[2]?).map (·.type) = some 70 := by kernel_rfl
theorem gDeed : Tryz.prog.globalNamed "consignor/keys.deeds" = some 0 := by kernel_rfl
theorem gDeedType : (Tryz.prog.globals[0]?).map (·.type) = some 242 := by kernel_rfl
theorem gPowType : (Tryz.prog.globals[1]?).map (·.type) = some 262 := by kernel_rfl
theorem cellsTab : Tryz.prog.cellsOf 70 = 6 := by kernel_rfl
theorem cellsPow : Tryz.prog.cellsOf 262 = 20 := by kernel_rfl
theorem cellsInt : Tryz.prog.cellsOf 3 = 1 := by kernel_rfl
theorem cellsU64 : Tryz.prog.cellsOf 226 = 1 := by kernel_rfl
theorem deeds_met {W : World} {ps : List MemPlace} (h : DataW.LaidVars Tryz.prog W [("consignor/keys.deeds", Rows.laid_consignor_keys_deeds)] ps) : DeedsLaid W := by
  obtain ⟨g', t', cs, fuel, p, q, hg', ht', hvar, hd, _, _⟩ := h
  obtain rfl := Option.some.inj (gDeed.symm.trans hg')
  obtain rfl := Option.some.inj (gDeedType.symm.trans ht')
  have hc := fun i v (hi : cs[i]? = some v) => World.var?_cell gDeed hvar i ▸ hi
  rcases open_map Tryz.underlying242 hd with ⟨_, h2⟩ | ⟨b, es, clock, n, rfl, hcs, hb, _, F, hx⟩
  · cases h2
  · have h0 : cs[0]? = some (.map (some b)) := by
      have := congrArg (·[0]?) hcs
      simpa using this
    have hcell : W.cell? ⟨0, 0, none⟩ = some (.map (some b)) := by rw [World.var?_cell gDeed hvar 0]; exact h0
    have hE := congrArg Prod.fst hx
    simp only [Rows.laid_consignor_keys_deeds, DataW.map.injEq] at hE
    refine ⟨World.block_lt_of_cell? W _ hcell, b, es.size, hcell, map_laid (WideMaps.string_law Tryz.underlying9) Tryz.underlying3 hb F hE ?_ ?_⟩
    · intro l d hm
      simp only [List.mem_cons, List.not_mem_nil, or_false, Prod.mk.injEq] at hm
      rcases hm with ⟨rfl, rfl⟩ | ⟨rfl, rfl⟩ | ⟨rfl, rfl⟩ | ⟨rfl, rfl⟩ | ⟨rfl, rfl⟩ | ⟨rfl, rfl⟩
      all_goals exact ⟨_, rfl, rfl⟩
    · intro l hl
      obtain ⟨v, hv⟩ := Option.isSome_iff_exists.1 hl
      obtain ⟨d, h0, h5, rfl, rfl⟩ := deedsF_inv hv
      have : d = 0 ∨ d = 1 ∨ d = 2 ∨ d = 3 ∨ d = 4 ∨ d = 5 := by omega
      rcases this with rfl | rfl | rfl | rfl | rfl | rfl
      all_goals exact ⟨_, by simp [deedL]; rfl⟩
/-- What the rows' list gives. -/
theorem laidE_of {W : World} (h : laidMetH Tryz.prog [("math/bits.deBruijn32tab", Rows.laid_math_bits_deBruijn32tab), ("math/bits.deBruijn64tab", Rows.laid_math_bits_deBruijn64tab), ("internal/strconv.uint64pow10", Rows.laid_internal_strconv_uint64pow10), ("consignor/keys.parties", Rows.laid_consignor_keys_parties), ("consignor/keys.deeds", Rows.laid_consignor_keys_deeds)] W) : LaidE W := by
  obtain ⟨ps, h, _⟩ := (h : laidMet Tryz.prog _ W)
  obtain ⟨_, h⟩ := tail_of h
  obtain ⟨_, h⟩ := tail_of h
  have T : Lib.TabIs Tryz.prog W "internal/strconv.uint64pow10" .u64 Lib.pow10Tab := tab_of gPow gPowType Tryz.underlying262 Tryz.underlying226 cellsU64 cellsPow h
  obtain ⟨_, h⟩ := tail_of h
  have P : Lib.TabIs Tryz.prog W "consignor/keys.parties" .i64 [1, 0, 2, 1, 0, 2] := tab_of gTab gTabType Tryz.underlying70 Tryz.underlying3 cellsInt cellsTab h
  obtain ⟨_, h⟩ := tail_of h
  have c0 : W.cell? ⟨2, 0, none⟩ = some (.int .i64 1) := P.cell gTab 0 (by decide)
  exact ⟨⟨World.block_lt_of_cell? W _ c0, c0, P.cell gTab 1 (by decide), P.cell gTab 2 (by decide), P.cell gTab 3 (by decide), P.cell gTab 4 (by decide), P.cell gTab 5 (by decide)⟩, deeds_met h, T⟩
/-- A world for a witness: the settled one, tables and map holding what their initialisers lay. -/
def litVal : DataW Unit → Value
  | .lit (.int k n) => .int k n
  | _ => .int .u8 0
def litCells : DataW Unit → Array Value
  | .agg ps => (ps.map litVal).toArray
  | _ => #[]
def putCells (cs : Array Value) : Obj → Obj
  | .cells _ t frozen => .cells cs t frozen
  | o => o
def deedsObj : Obj := .map #[⟨.string ⟨#[99, 104, 97, 114, 103, 101]⟩, .int .i64 1, 0⟩, ⟨.string ⟨#[114, 101, 102, 117, 110, 100]⟩, .int .i64 4, 1⟩, ⟨.string ⟨#[114, 101, 108, 101, 97, 115, 101]⟩, .int .i64 3, 2⟩, ⟨.string ⟨#[114, 101, 115, 101, 114, 118, 101]⟩, .int .i64 0, 3⟩, ⟨.string ⟨#[115, 104, 105, 112]⟩, .int .i64 2, 4⟩, ⟨.string ⟨#[118, 111, 105, 100]⟩, .int .i64 5, 5⟩] 6
def laidHeap (h : Array Obj) : Array Obj :=
  let h1 := h.modify 3 (putCells (litCells Rows.laid_math_bits_deBruijn32tab))
  let h2 := h1.modify 4 (putCells (litCells Rows.laid_math_bits_deBruijn64tab))
  let h3 := h2.modify 1 (putCells (litCells Rows.laid_internal_strconv_uint64pow10))
  let h4 := h3.modify 2 (putCells (litCells Rows.laid_consignor_keys_parties))
  let h5 := h4.modify 0 (putCells #[.map (some h.size)])
  h5.push deedsObj
noncomputable def laidWorld (os : Os) : World :=
  { World.holding Tryz.prog os ⟨#[], #[], []⟩ with heap := laidHeap (World.holding Tryz.prog os ⟨#[], #[], []⟩).heap }
end Go.Proofs.YtibabfedpdoofaaGreatDoor

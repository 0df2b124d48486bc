/-
  An item refused, an item proposed, by walking the program's text; conditions: the core is one that entries come to.
  The document's desk: what is open, an item proposed, by walking its text; conditions: the core is one that entries come to.
  An item approved, by walking the program's text; conditions: the core is one that entries come to, the laid tables.
-/
import Derived.Lib.ItoaLen
import Derived.Test.YtibabfedpdoofaaGreatDoorRa1
import Derived.Test.YtibabfedpdoofaaGreatDoorRa6
import Derived.Test.YtibabfedpdoofaaGreatDoorRa11
namespace Go.Proofs.YtibabfedpdoofaaGreatDoor
open Go.RowKit Go.Own Go.Maps

theorem dk_in (X : List Ent) (x : DkA) (D : DkS) (M : List Ent) : ∀ e ∈ dkPs x D, e ∈ X ++ (dkPs x D ++ M) := fun _e he => List.mem_append_right _ (List.mem_append_left _ he)
theorem dk_set (I : List ItemS) {j : Nat} (hj : j < I.length) (s : Int) : (I.set j { I[j] with s := s }).map itemC = (I.map itemC).set j ((itemC I[j]).set 3 (.int .i64 s)) := by
  rw [List.map_set]
  rfl
theorem refu_no {I : List ItemS} {b : List UInt8} {n : Int} (h : pendE I b n ≠ 0) : refuI I b n = I := by unfold refuI; rw [if_neg h]
theorem refu_at {I : List ItemS} {b : List UInt8} {n : Int} {j : Nat} (hn : n = (j : Int) + 1) (h : pendE I b n = 0) (hj : j < I.length) : refuI I b n = I.set j { I[j] with s := 3 } := by
  subst hn
  unfold refuI
  rw [if_pos h, itemAt_yes rfl hj]
  simp only
  unfold setI
  rw [show ((j : Int) + 1 - 1).toNat = j by omega]

set_option maxHeartbeats 8000000 in
set_option maxRecDepth 100000 in
theorem dkRefuse_any {W w : World} {M : List Ent} {x : DkA} {D : DkS} {b : List UInt8} {n : Int} (HO : Own W w (dkPs x D ++ M)) (hb : b.length ≤ maxLen) (hi : inI n = true) :
    Calls Tryz.prog 44 #[.pointer (some ⟨x.t, 0, none⟩), .string ⟨b.toArray⟩, .int .i64 n] w fun e w' => e = .returned (.int .i64 (pendE D.I b n)) ∧ Own W w' (dkPs x ⟨refuI D.I b n, D.P⟩ ++ M) := by
  have PD := Lib.hid (fun (w : World) (L : List Ent) (h : Own W w L) (hm : ∀ e ∈ dkPs x D, e ∈ L) => dkPend_any (Own.dkAt h hm) hb hi)
  by_cases hz : pendE D.I b n = 0
  rotate_left
  · rw [refu_no hz]
    have hd : (pendE D.I b n != 0) = true := by rw [bne_iff_ne]; exact hz
    generalize pendE D.I b n = e9 at *
    clear hz
    go_enter Tryz.func44, Tryz.ntmps44
    go_wp2_with ((go_at_call 107; go_must ((with_reducible refine (PD.out _ _ HO (dk_in [] _ _ _)).mono ?_); rintro e w ⟨rfl, hb⟩; replace HO := HO.call hb; clear hb)))
    go_ret
    exact ⟨rfl, HO⟩
  obtain ⟨_, j, hj, hn, -, -⟩ := pend_zero hz
  rw [refu_at hn hz hj]
  rw [hz] at PD ⊢
  clear hz
  obtain ⟨t, v, k, u, pm, bm⟩ := x
  have HO1 : Own W w (box t (.cells #[v, .pointer (some ⟨k, 0, none⟩)] 96) :: row 82 4 v (D.I.map itemC) :: bkE k u pm bm D.P :: M) := HO
  clear HO
  have HO := HO1
  clear HO1
  obtain ⟨q, c, hv⟩ := (HO.rowForm (t := 82) (k := 4) (v := v) (by (repeat (with_reducible (first | exact At.head _ | apply At.tail))))).2 (by rw [List.length_map]; omega)
  rw [List.length_map] at hv
  subst hv
  have hset := Lib.hid (dk_set D.I hj 3)
  have HG := Lib.hid (show (D.I.map itemC)[j]? = some (itemC D.I[j]) by simp [hj])
  have hI := inI_iff.1 hi
  have hjI : (j : Int) < (D.I.length : Int) := by omega
  have e1 : IntKind.i64.wrap (n - 1) = (j : Int) := by rw [show n - 1 = (j : Int) by omega, wrap_in (inI_iff.2 (by omega))]
  have PD' := Lib.hid (fun (w : World) (h : Own W w (box t (.cells #[.slice (some q) D.I.length c, .pointer (some ⟨k, 0, none⟩)] 96) :: row 82 4 (.slice (some q) D.I.length c) (D.I.map itemC) :: bkE k u pm bm D.P :: M)) => PD.out w _ h (dk_in [] _ _ _))
  simp only at PD'
  clear PD hi hn
  generalize D.I[j] = z at *
  go_enter Tryz.func44, Tryz.ntmps44
  go_wp2_with (first | (((with_reducible apply wpList_loadOne HO); exact rfl; exact rfl; (repeat (with_reducible (exact At.head _))); exact rfl; infer_instance; exact rfl; (simp only [Act.put, zA, zB, zC]))) | (go_at_call 107; go_must ((with_reducible refine (PD'.out _ HO).mono ?_); rintro e w ⟨rfl, hb⟩; replace HO := HO.call hb; clear hb)) | ((with_reducible apply wpList_storeRow1 (q := q) (i := j) (k := 4) (f := 3) (n := D.I.length) (c := c) HO); exact rfl; exact rfl; ((simp [Act.eval]; rfl)); exact rfl; exact HG.out; decide; (repeat (with_reducible (first | exact At.head _ | apply At.tail))); exact itemC_len _; infer_instance; exact rfl; clear HO; intro w HO; (simp only [Act.put])))
  go_ret
  refine ⟨rfl, ?_⟩
  show Own W w (box t (.cells #[.slice (some q) D.I.length c, .pointer (some ⟨k, 0, none⟩)] 96) :: row 82 4 (.slice (some q) D.I.length c) ((D.I.set j { z with s := 3 }).map itemC) :: bkE k u pm bm D.P :: M)
  rw [hset.out]
  exact HO
theorem prop_who {S : CoS} {I : List ItemS} {x : ItemS} (h : whoB x.b = false) : propE S I x = 2 ∧ propI S I x = I ∧ propN S I x = 0 := by
  have e : propE S I x = 2 := by unfold propE; rw [if_neg (by rw [h]; simp)]
  refine ⟨e, ?_, ?_⟩
  · unfold propI; rw [e]; rfl
  · unfold propN; rw [e]; rfl
theorem prop_none {S : CoS} {I : List ItemS} {x : ItemS} (h : whoB x.b = true) (hx : ordAt S.L x.o = none) : propE S I x = 4 ∧ propI S I x = I ∧ propN S I x = 0 := by
  have e : propE S I x = 4 := by unfold propE; rw [if_pos h, hx]
  refine ⟨e, ?_, ?_⟩
  · unfold propI; rw [e]; rfl
  · unfold propN; rw [e]; rfl
theorem prop_waits {S : CoS} {I : List ItemS} {x : ItemS} {y : OrdS × D6} (h : whoB x.b = true) (hx : ordAt S.L x.o = some y) (hw : (waitsOf y.2).2 = true) : propE S I x = 92 ∧ propI S I x = I ∧ propN S I x = 0 := by
  have e : propE S I x = 92 := by unfold propE; rw [if_pos h, hx]; simp only; rw [if_pos hw]
  refine ⟨e, ?_, ?_⟩
  · unfold propI; rw [e]; rfl
  · unfold propN; rw [e]; rfl
theorem prop_over {S : CoS} {I : List ItemS} {x : ItemS} {y : OrdS × D6} (h : whoB x.b = true) (hx : ordAt S.L x.o = some y) (hw : (waitsOf y.2).2 = false) (h1 : ¬ ((openD S I x.o).2 = true ∧ withinB x.a (openD S I x.o).1 = true)) : propE S I x = 90 ∧ propI S I x = I ∧ propN S I x = 0 := by
  have e : propE S I x = 90 := by unfold propE; rw [if_pos h, hx]; simp only; rw [if_neg (by rw [hw]; simp), if_neg h1]
  refine ⟨e, ?_, ?_⟩
  · unfold propI; rw [e]; rfl
  · unfold propN; rw [e]; rfl
theorem prop_full {S : CoS} {I : List ItemS} {x : ItemS} {y : OrdS × D6} (h : whoB x.b = true) (hx : ordAt S.L x.o = some y) (hw : (waitsOf y.2).2 = false) (h1 : (openD S I x.o).2 = true ∧ withinB x.a (openD S I x.o).1 = true) (h2 : ¬ I.length < 100) : propE S I x = 60 ∧ propI S I x = I ∧ propN S I x = 0 := by
  have e : propE S I x = 60 := by unfold propE; rw [if_pos h, hx]; simp only; rw [if_neg (by rw [hw]; simp), if_pos h1, if_neg h2]
  refine ⟨e, ?_, ?_⟩
  · unfold propI; rw [e]; rfl
  · unfold propN; rw [e]; rfl
theorem prop_yes {S : CoS} {I : List ItemS} {x : ItemS} {y : OrdS × D6} (h : whoB x.b = true) (hx : ordAt S.L x.o = some y) (hw : (waitsOf y.2).2 = false) (h1 : (openD S I x.o).2 = true ∧ withinB x.a (openD S I x.o).1 = true) (h2 : I.length < 100) : propE S I x = 0 ∧ propI S I x = I ++ [{ x with s := 1 }] ∧ propN S I x = (I.length : Int) + 1 := by
  have e : propE S I x = 0 := by unfold propE; rw [if_pos h, hx]; simp only; rw [if_neg (by rw [hw]; simp), if_pos h1, if_pos h2]
  refine ⟨e, ?_, ?_⟩
  · unfold propI; rw [if_pos e]
  · unfold propN; rw [if_pos e]

set_option maxHeartbeats 16000000 in
set_option maxRecDepth 100000 in
theorem dkProp_any {W w : World} {M : List Ent} {x : DkA} {D : DkS} {a : CoA} {S : CoS} {i : InA} {A : InS} (y : ItemS) (HO : Own W w (dkPs x D ++ M)) (hm : ∀ e ∈ coPs a S i A, e ∈ M) (hI : ItOk D.I) (hB : Bk S.P) (hy : inI y.o = true) (hyb : y.b.length ≤ maxLen) (hlen : D.I.length ≤ 1000) :
    Calls Tryz.prog 42 #[.pointer (some ⟨x.t, 0, none⟩), .pointer (some ⟨a.c, 0, none⟩), itemV y] w fun e w' => e = .returned (.tuple #[.int .i64 (propN S D.I y), .int .i64 (propE S D.I y)]) ∧ ∃ v', Own W w' (dkPs { x with v := v' } ⟨propI S D.I y, D.P⟩ ++ M) := by
  obtain ⟨t, v, k, u, pm, bm⟩ := x
  have HO1 : Own W w (box t (.cells #[v, .pointer (some ⟨k, 0, none⟩)] 96) :: row 82 4 v (D.I.map itemC) :: bkE k u pm bm D.P :: M) := HO
  clear HO
  have HO := HO1
  clear HO1
  obtain ⟨⟨p, c, hv⟩, -⟩ := HO.rowForm (t := 82) (k := 4) (v := v) (by (repeat (with_reducible (first | exact At.head _ | apply At.tail))))
  rw [List.length_map] at hv
  subst hv
  have DA := Lib.hid (fun (w : World) (X : List Ent) (h : Own W w (X ++ (box t (.cells #[.slice p D.I.length c, .pointer (some ⟨k, 0, none⟩)] 96) :: row 82 4 (.slice p D.I.length c) (D.I.map itemC) :: bkE k u pm bm D.P :: M))) => (Own.dkAt h (dk_in X ⟨t, .slice p D.I.length c, k, u, pm, bm⟩ D M) : DkAt w ⟨t, .slice p D.I.length c, k, u, pm, bm⟩ D))
  have CA := Lib.hid (fun (w : World) (X : List Ent) (h : Own W w (X ++ (box t (.cells #[.slice p D.I.length c, .pointer (some ⟨k, 0, none⟩)] 96) :: row 82 4 (.slice p D.I.length c) (D.I.map itemC) :: bkE k u pm bm D.P :: M))) => (Own.coAt h (List.mem_append_right _ (.tail _ (.tail _ (.tail _ (hm _ (.head _)))))) (List.mem_append_right _ (.tail _ (.tail _ (.tail _ (hm _ (.tail _ (.head _))))))) (List.mem_append_right _ (.tail _ (.tail _ (.tail _ (hm _ (.tail _ (.tail _ (.head _)))))))) : CoAt w a S i A))
  have N := Lib.hid (fun (w : World) (h : DkAt w ⟨t, .slice p D.I.length c, k, u, pm, bm⟩ D) => dkNone_any h)
  have OP := Lib.hid (fun (w : World) (h : DkAt w ⟨t, .slice p D.I.length c, k, u, pm, bm⟩ D) (hc : CoAt w a S i A) => dkOpen_any h hc hI hB hy)
  have OR := Lib.hid (fun (w : World) (hc : CoAt w a S i A) => coOrder_any hc hy)
  have WH := fun w => who_any y.b hyb w
  have hlx : (D.I.length : Int) ≤ 1000 := by omega
  simp only at N OP
  clear hm hI hB hyb hy
  obtain ⟨yb, yo, ya, ys⟩ := y
  simp only [itemV] at *
  cases hw : whoB yb
  · obtain ⟨e1, e2, e3⟩ := prop_who (S := S) (I := D.I) (x := ⟨yb, yo, ya, ys⟩) hw
    rw [e1, e2, e3]
    rw [hw] at WH
    clear hw e1 e2 e3 OP OR CA
    go_enter Tryz.func42, Tryz.ntmps42
    go_wp2_with (first | (((with_reducible apply wpList_loadOne HO); exact rfl; exact rfl; (repeat (with_reducible (exact At.head _))); exact rfl; infer_instance; exact rfl; (simp only [Act.put, zA, zB, zC]))) | (((with_reducible apply wpList_boxAgg _ HO rfl); exact rfl; exact rfl; exact rfl; clear HO; intro b5 w HO; (simp only [Act.put, zA, zB, zC]))) | (go_at_call 101; go_must ((with_reducible refine (N.out _ (DA.out _ [_] HO)).mono ?_); rintro e w ⟨rfl, hb⟩; replace HO := HO.call hb; clear hb)) | (go_at_call 104; go_must ((with_reducible refine (WH _).mono ?_); rintro e w ⟨rfl, hb⟩; replace HO := HO.call hb; clear hb)))
    go_ret2
    exact ⟨rfl, _, HO.tail⟩
  rw [hw] at WH
  rcases hx : ordAt S.L yo with _ | z
  · obtain ⟨e1, e2, e3⟩ := prop_none (S := S) (I := D.I) (x := ⟨yb, yo, ya, ys⟩) hw hx
    rw [e1, e2, e3]
    rw [hx] at OR
    simp only [ordR, noSaga] at OR
    have ho : openD S D.I yo = (0, false) := openD_no hx
    rw [ho] at OP
    clear hw e1 e2 e3 hx ho
    go_enter Tryz.func42, Tryz.ntmps42
    go_wp2_with (first | (((with_reducible apply wpList_loadOne HO); exact rfl; exact rfl; (repeat (with_reducible (first | exact At.head _ | apply At.tail))); exact rfl; infer_instance; exact rfl; (simp only [Act.put, zA, zB, zC]))) | ((with_reducible apply wpList_storeAll HO); exact rfl; exact rfl; exact rfl; (repeat (with_reducible (exact At.head _))); infer_instance; exact rfl; exact rfl; exact rfl; exact rfl; clear HO; intro w HO; (simp only [Act.put])) | (first | ((with_reducible apply wpList_boxAgg _ HO rfl); exact rfl; exact rfl; exact rfl; clear HO; intro b5 w HO; (simp only [Act.put, zA, zB, zC])) | ((with_reducible apply wpList_allocAgg _ HO rfl); exact rfl; infer_instance; exact rfl; clear HO; intro b5 w HO; (simp only [Act.put, zA, zB, zC]))) | (go_at_call 101; go_must ((with_reducible refine (N.out _ (DA.out _ [_] HO)).mono ?_); rintro e w ⟨rfl, hb⟩; replace HO := HO.call hb; clear hb)) | (go_at_call 104; go_must ((with_reducible refine (WH _).mono ?_); rintro e w ⟨rfl, hb⟩; replace HO := HO.call hb; clear hb)) | (go_at_call 36; go_must ((with_reducible refine (OR.out _ (CA.out _ [_] HO)).mono ?_); rintro e w ⟨rfl, hb⟩; replace HO := HO.call hb; clear hb)) | (go_at_call 41; go_must ((with_reducible refine (OP.out _ (DA.out _ [_, _] HO) (CA.out _ [_, _] HO)).mono ?_); rintro e w ⟨rfl, hb⟩; replace HO := HO.call hb; clear hb)))
    go_ret2
    exact ⟨rfl, _, HO.tail.tail⟩
  obtain ⟨zo, zs⟩ := z
  rw [hx] at OR
  have EN := fun w => ended_any zo zs w
  simp only [ordR, sagaV] at OR EN
  cases hwt : (waitsOf zs).2
  rotate_left
  · obtain ⟨e1, e2, e3⟩ := prop_waits (S := S) (I := D.I) (x := ⟨yb, yo, ya, ys⟩) hw hx hwt
    rw [e1, e2, e3]
    rw [hwt] at EN
    clear hw e1 e2 e3 hx hwt
    generalize openD S D.I yo = g at *
    obtain ⟨g1, g2⟩ := g
    simp only at OP
    go_enter Tryz.func42, Tryz.ntmps42
    go_wp2_with (first | (first | ((with_reducible apply wpList_loadAll HO); exact rfl; exact rfl; (repeat (with_reducible (exact At.head _))); infer_instance; exact rfl; exact rfl; (simp only [Act.put, zA, zB, zC])) | ((with_reducible apply wpList_loadOne HO); exact rfl; exact rfl; (repeat (with_reducible (first | exact At.head _ | apply At.tail))); exact rfl; infer_instance; exact rfl; (simp only [Act.put, zA, zB, zC]))) | ((with_reducible apply wpList_storeAll HO); exact rfl; exact rfl; exact rfl; (repeat (with_reducible (exact At.head _))); infer_instance; exact rfl; exact rfl; exact rfl; exact rfl; clear HO; intro w HO; (simp only [Act.put])) | (first | ((with_reducible apply wpList_boxAgg _ HO rfl); exact rfl; exact rfl; exact rfl; clear HO; intro b5 w HO; (simp only [Act.put, zA, zB, zC])) | ((with_reducible apply wpList_allocAgg _ HO rfl); exact rfl; infer_instance; exact rfl; clear HO; intro b5 w HO; (simp only [Act.put, zA, zB, zC]))) | (go_at_call 101; go_must ((with_reducible refine (N.out _ (DA.out _ [_] HO)).mono ?_); rintro e w ⟨rfl, hb⟩; replace HO := HO.call hb; clear hb)) | (go_at_call 104; go_must ((with_reducible refine (WH _).mono ?_); rintro e w ⟨rfl, hb⟩; replace HO := HO.call hb; clear hb)) | (go_at_call 36; go_must ((with_reducible refine (OR.out _ (CA.out _ [_] HO)).mono ?_); rintro e w ⟨rfl, hb⟩; replace HO := HO.call hb; clear hb)) | (go_at_call 41; go_must ((with_reducible refine (OP.out _ (DA.out _ [_, _] HO) (CA.out _ [_, _] HO)).mono ?_); rintro e w ⟨rfl, hb⟩; replace HO := HO.call hb; clear hb)) | (go_at_call 105; go_must ((with_reducible refine (EN _).mono ?_); rintro e w ⟨rfl, hb⟩; replace HO := HO.call hb; clear hb)))
    go_ret2
    exact ⟨rfl, _, HO.tail.tail⟩
  rw [hwt] at EN
  have WI := fun w => within_any ya (openD S D.I yo).1 w
  by_cases h1 : (openD S D.I yo).2 = true ∧ withinB ya (openD S D.I yo).1 = true
  rotate_left
  · obtain ⟨e1, e2, e3⟩ := prop_over (S := S) (I := D.I) (x := ⟨yb, yo, ya, ys⟩) hw hx hwt h1
    rw [e1, e2, e3]
    clear hw e1 e2 e3 hx hwt
    generalize openD S D.I yo = g at *
    obtain ⟨g1, g2⟩ := g
    simp only at OP h1 WI
    cases g2
    · clear h1 WI
      go_enter Tryz.func42, Tryz.ntmps42
      go_wp2_with (first | go_big_skip | (first | ((with_reducible apply wpList_loadAll HO); exact rfl; exact rfl; (repeat (with_reducible (exact At.head _))); infer_instance; exact rfl; exact rfl; (simp only [Act.put, zA, zB, zC])) | ((with_reducible apply wpList_loadOne HO); exact rfl; exact rfl; (repeat (with_reducible (first | exact At.head _ | apply At.tail))); exact rfl; infer_instance; exact rfl; (simp only [Act.put, zA, zB, zC]))) | ((with_reducible apply wpList_storeAll HO); exact rfl; exact rfl; exact rfl; (repeat (with_reducible (exact At.head _))); infer_instance; exact rfl; exact rfl; exact rfl; exact rfl; clear HO; intro w HO; (simp only [Act.put])) | (first | ((with_reducible apply wpList_boxAgg _ HO rfl); exact rfl; exact rfl; exact rfl; clear HO; intro b5 w HO; (simp only [Act.put, zA, zB, zC])) | ((with_reducible apply wpList_allocAgg _ HO rfl); exact rfl; infer_instance; exact rfl; clear HO; intro b5 w HO; (simp only [Act.put, zA, zB, zC]))) | (go_at_call 101; go_must ((with_reducible refine (N.out _ (DA.out _ [_] HO)).mono ?_); rintro e w ⟨rfl, hb⟩; replace HO := HO.call hb; clear hb)) | (go_at_call 104; go_must ((with_reducible refine (WH _).mono ?_); rintro e w ⟨rfl, hb⟩; replace HO := HO.call hb; clear hb)) | (go_at_call 36; go_must ((with_reducible refine (OR.out _ (CA.out _ [_] HO)).mono ?_); rintro e w ⟨rfl, hb⟩; replace HO := HO.call hb; clear hb)) | (go_at_call 41; go_must ((with_reducible refine (OP.out _ (DA.out _ [_, _] HO) (CA.out _ [_, _] HO)).mono ?_); rintro e w ⟨rfl, hb⟩; replace HO := HO.call hb; clear hb)) | (go_at_call 105; go_must ((with_reducible refine (EN _).mono ?_); rintro e w ⟨rfl, hb⟩; replace HO := HO.call hb; clear hb)))
      go_ret2
      exact ⟨rfl, _, HO.tail.tail⟩
    · have hwb : withinB ya g1 = false := by rw [← Bool.not_eq_true]; exact fun hh => h1 ⟨rfl, hh⟩
      rw [hwb] at WI
      clear h1 hwb
      go_enter Tryz.func42, Tryz.ntmps42
      go_wp2_with (first | (first | ((with_reducible apply wpList_loadAll HO); exact rfl; exact rfl; (repeat (with_reducible (exact At.head _))); infer_instance; exact rfl; exact rfl; (simp only [Act.put, zA, zB, zC])) | ((with_reducible apply wpList_loadOne HO); exact rfl; exact rfl; (repeat (with_reducible (first | exact At.head _ | apply At.tail))); exact rfl; infer_instance; exact rfl; (simp only [Act.put, zA, zB, zC]))) | ((with_reducible apply wpList_storeAll HO); exact rfl; exact rfl; exact rfl; (repeat (with_reducible (exact At.head _))); infer_instance; exact rfl; exact rfl; exact rfl; exact rfl; clear HO; intro w HO; (simp only [Act.put])) | (first | ((with_reducible apply wpList_boxAgg _ HO rfl); exact rfl; exact rfl; exact rfl; clear HO; intro b5 w HO; (simp only [Act.put, zA, zB, zC])) | ((with_reducible apply wpList_allocAgg _ HO rfl); exact rfl; infer_instance; exact rfl; clear HO; intro b5 w HO; (simp only [Act.put, zA, zB, zC]))) | (go_at_call 101; go_must ((with_reducible refine (N.out _ (DA.out _ [_] HO)).mono ?_); rintro e w ⟨rfl, hb⟩; replace HO := HO.call hb; clear hb)) | (go_at_call 104; go_must ((with_reducible refine (WH _).mono ?_); rintro e w ⟨rfl, hb⟩; replace HO := HO.call hb; clear hb)) | (go_at_call 36; go_must ((with_reducible refine (OR.out _ (CA.out _ [_] HO)).mono ?_); rintro e w ⟨rfl, hb⟩; replace HO := HO.call hb; clear hb)) | (go_at_call 41; go_must ((with_reducible refine (OP.out _ (DA.out _ [_, _] HO) (CA.out _ [_, _] HO)).mono ?_); rintro e w ⟨rfl, hb⟩; replace HO := HO.call hb; clear hb)) | (go_at_call 105; go_must ((with_reducible refine (EN _).mono ?_); rintro e w ⟨rfl, hb⟩; replace HO := HO.call hb; clear hb)) | (go_at_call 106; go_must ((with_reducible refine (WI _).mono ?_); rintro e w ⟨rfl, hb⟩; replace HO := HO.call hb; clear hb)))
      go_ret2
      exact ⟨rfl, _, HO.tail.tail⟩
  by_cases h2 : D.I.length < 100
  rotate_left
  · obtain ⟨e1, e2, e3⟩ := prop_full (S := S) (I := D.I) (x := ⟨yb, yo, ya, ys⟩) hw hx hwt h1 h2
    rw [e1, e2, e3]
    have hd : (100 : Int) ≤ (D.I.length : Int) := by omega
    obtain ⟨h3, h4⟩ := h1
    rw [h4] at WI
    clear hw e1 e2 e3 hx hwt h2 h4
    generalize openD S D.I yo = g at *
    obtain ⟨g1, g2⟩ := g
    simp only at OP h3 WI
    subst h3
    go_enter Tryz.func42, Tryz.ntmps42
    go_wp2_with (first | (first | ((with_reducible apply wpList_loadAll HO); exact rfl; exact rfl; (repeat (with_reducible (first | exact At.head _ | apply At.tail))); infer_instance; exact rfl; exact rfl; (simp only [Act.put, zA, zB, zC])) | ((with_reducible apply wpList_loadOne HO); exact rfl; exact rfl; (repeat (with_reducible (first | exact At.head _ | apply At.tail))); exact rfl; infer_instance; exact rfl; (simp only [Act.put, zA, zB, zC]))) | ((with_reducible apply wpList_storeAll HO); exact rfl; exact rfl; exact rfl; (repeat (with_reducible (exact At.head _))); infer_instance; exact rfl; exact rfl; exact rfl; exact rfl; clear HO; intro w HO; (simp only [Act.put])) | (first | ((with_reducible apply wpList_boxAgg _ HO rfl); exact rfl; exact rfl; exact rfl; clear HO; intro b5 w HO; (simp only [Act.put, zA, zB, zC])) | ((with_reducible apply wpList_allocAgg _ HO rfl); exact rfl; infer_instance; exact rfl; clear HO; intro b5 w HO; (simp only [Act.put, zA, zB, zC]))) | (go_at_call 101; go_must ((with_reducible refine (N.out _ (DA.out _ [_] HO)).mono ?_); rintro e w ⟨rfl, hb⟩; replace HO := HO.call hb; clear hb)) | (go_at_call 104; go_must ((with_reducible refine (WH _).mono ?_); rintro e w ⟨rfl, hb⟩; replace HO := HO.call hb; clear hb)) | (go_at_call 36; go_must ((with_reducible refine (OR.out _ (CA.out _ [_] HO)).mono ?_); rintro e w ⟨rfl, hb⟩; replace HO := HO.call hb; clear hb)) | (go_at_call 41; go_must ((with_reducible refine (OP.out _ (DA.out _ [_, _] HO) (CA.out _ [_, _] HO)).mono ?_); rintro e w ⟨rfl, hb⟩; replace HO := HO.call hb; clear hb)) | (go_at_call 105; go_must ((with_reducible refine (EN _).mono ?_); rintro e w ⟨rfl, hb⟩; replace HO := HO.call hb; clear hb)) | (go_at_call 106; go_must ((with_reducible refine (WI _).mono ?_); rintro e w ⟨rfl, hb⟩; replace HO := HO.call hb; clear hb)))
    go_ret2
    exact ⟨rfl, _, HO.tail.tail⟩
  obtain ⟨e1, e2, e3⟩ := prop_yes (S := S) (I := D.I) (x := ⟨yb, yo, ya, ys⟩) hw hx hwt h1 h2
  rw [e1, e2, e3]
  have hd : (D.I.length : Int) < 100 := by omega
  obtain ⟨h3, h4⟩ := h1
  rw [h4] at WI
  have hlm : (D.I.map itemC).length + 1 ≤ 1000000 := by rw [List.length_map]; omega
  have hpc := Lib.hid (show (D.I ++ [({ b := yb, o := yo, a := ya, s := 1 } : ItemS)]).map itemC = D.I.map itemC ++ [[.string ⟨yb.toArray⟩, .int .i64 yo, .int .i64 ya, .int .i64 1]] by simp [itemC])
  clear hw e1 e2 e3 hx hwt h2 h4
  generalize openD S D.I yo = g at *
  obtain ⟨g1, g2⟩ := g
  simp only at OP h3 WI
  subst h3
  go_enter Tryz.func42, Tryz.ntmps42
  go_upto_region 5 with (first | (((with_reducible apply wpList_loadOne HO); exact rfl; exact rfl; (repeat (with_reducible (exact At.head _))); exact rfl; infer_instance; exact rfl; (simp only [Act.put, zA, zB, zC]))) | (((with_reducible apply wpList_boxAgg _ HO rfl); exact rfl; exact rfl; exact rfl; clear HO; intro b5 w HO; (simp only [Act.put, zA, zB, zC]))) | (go_at_call 101; go_must ((with_reducible refine (N.out _ (DA.out _ [_] HO)).mono ?_); rintro e w ⟨rfl, hb⟩; replace HO := HO.call hb; clear hb)) | (go_at_call 104; go_must ((with_reducible refine (WH _).mono ?_); rintro e w ⟨rfl, hb⟩; replace HO := HO.call hb; clear hb)))
  go_upto_region 16 with (first | (first | ((with_reducible apply wpList_loadAll HO); exact rfl; exact rfl; (repeat (with_reducible (first | exact At.head _ | apply At.tail))); infer_instance; exact rfl; exact rfl; (simp only [Act.put, zA, zB, zC])) | ((with_reducible apply wpList_loadOne HO); exact rfl; exact rfl; (repeat (with_reducible (first | exact At.head _ | apply At.tail))); exact rfl; infer_instance; exact rfl; (simp only [Act.put, zA, zB, zC]))) | ((with_reducible apply wpList_storeAll HO); exact rfl; exact rfl; exact rfl; (repeat (with_reducible (exact At.head _))); infer_instance; exact rfl; exact rfl; exact rfl; exact rfl; clear HO; intro w HO; (simp only [Act.put])) | ((with_reducible apply wpList_storeOne HO); exact rfl; exact rfl; ((simp [Act.eval]; rfl)); exact rfl; (repeat (with_reducible (first | exact At.head _ | apply At.tail))); infer_instance; exact (by simp); (simp only [List.set_cons_succ, List.set_cons_zero]; rfl); exact rfl; clear HO; intro w HO; (simp only [Act.put])) | (((with_reducible apply wpList_allocAgg _ HO rfl); exact rfl; infer_instance; exact rfl; clear HO; intro b8 w HO; (simp only [Act.put, zA, zB, zC]))) | (go_at_call 36; go_must ((with_reducible refine (OR.out _ (CA.out _ [_] HO)).mono ?_); rintro e w ⟨rfl, hb⟩; replace HO := HO.call hb; clear hb)) | (go_at_call 41; go_must ((with_reducible refine (OP.out _ (DA.out _ [_, _] HO) (CA.out _ [_, _] HO)).mono ?_); rintro e w ⟨rfl, hb⟩; replace HO := HO.call hb; clear hb)) | (go_at_call 105; go_must ((with_reducible refine (EN _).mono ?_); rintro e w ⟨rfl, hb⟩; replace HO := HO.call hb; clear hb)) | (go_at_call 106; go_must ((with_reducible refine (WI _).mono ?_); rintro e w ⟨rfl, hb⟩; replace HO := HO.call hb; clear hb)))
  replace HO := HO.tail
  clear DA CA N OP OR WH EN WI
  refine region_sched2 ([box b5 (.cells #[.string ⟨yb.toArray⟩, .int .i64 yo, .int .i64 ya, .int .i64 1] 82), box t (.cells #[.slice p D.I.length c, .pointer (some ⟨k, 0, none⟩)] 96)]) [(0, true), (1, true), (2, true), (3, true), (4, true), (5, true), (6, false), (7, false), (8, true), (9, true), (10, false)] HO (by with_reducible (repeat (first | exact List.nil_sublist _ | apply List.Sublist.cons_cons))) (by kernel_rfl) (by kernel_rfl) ?_
  clear HO
  intro w HO
  repeat (first | ((with_reducible apply wpSched_loadOne); exact rfl; exact rfl; exact rfl; (repeat (with_reducible (first | exact At.head _ | apply At.tail))); exact rfl; infer_instance; exact rfl; (simp only [Act.put, zA, zB, zC])) | ((with_reducible apply wpSched_loadAll); exact rfl; exact rfl; exact rfl; (repeat (with_reducible (exact At.head _))); infer_instance; exact rfl; exact rfl; (simp only [Act.put, zA, zB, zC])) | ((with_reducible apply wpSched_pure); exact rfl; exact rfl; (intro w'; go_simp; try with_reducible rfl); (simp only [Act.put, zA, zB, zC])))
  ((with_reducible apply wpSched_loud); exact rfl; (((with_reducible apply wpList_lit1 HO); exact rfl; infer_instance; infer_instance; exact rfl; exact rfl; exact (by decide); exact rfl; clear HO; intro bl w HO; (simp only [Act.put, zA, zB, zC]))))
  refine wpList_nil (thenQ_keep (HO.held (by with_reducible (repeat (first | exact List.nil_sublist _ | apply List.Sublist.cons_cons | apply List.Sublist.cons)))) ?_)
  ((with_reducible apply wpSched_loud); exact rfl; ((with_reducible apply wpList_push1 HO); exact rfl; infer_instance; infer_instance; ((simp [Act.eval]; rfl)); exact rfl; intro _; (repeat (with_reducible (first | exact At.head _ | apply At.tail))); exact rfl; exact rfl; (omega); decide; exact rfl; clear HO; intro v2 w HO hv2; (simp only [Act.put, zA, zB, zC])))
  obtain ⟨p2, n2, c2, rfl⟩ := hv2
  obtain ⟨⟨p3, c3, hv3⟩, -⟩ := HO.rowForm (t := 82) (k := 4) (v := .slice p2 n2 c2) (by (repeat (with_reducible (first | exact At.head _ | apply At.tail))))
  cases hv3
  simp only [List.length_append, List.length_map, List.length_cons, List.length_nil, Nat.zero_add] at HO ⊢
  refine wpList_nil (thenQ_keep (HO.held (by with_reducible (repeat (first | exact List.nil_sublist _ | apply List.Sublist.cons_cons)))) ?_)
  repeat (((with_reducible apply wpSched_pure); exact rfl; exact rfl; (intro w'; go_simp; try with_reducible rfl); (simp only [Act.put, zA, zB, zC])))
  ((with_reducible apply wpSched_loud); exact rfl; ((with_reducible apply wpList_storeOne HO); exact rfl; exact rfl; ((simp [Act.eval]; rfl)); exact rfl; (repeat (with_reducible (first | exact At.head _ | apply At.tail))); infer_instance; exact (by simp); (simp only [List.set_cons_zero]; rfl); exact rfl; clear HO; intro w HO; (simp only [Act.put])))
  refine wpList_nil (thenQ_free (by kernel_rfl) ?_)
  refine wpSched_end ?_
  go_wp2_with ((((with_reducible apply wpList_loadOne HO); exact rfl; exact rfl; (repeat (with_reducible (first | exact At.head _ | apply At.tail))); exact rfl; infer_instance; exact rfl; (simp only [Act.put, zA, zB, zC]))))
  go_ret2
  refine ⟨by first | rfl | (congr 3) | (congr 3; omega), .slice p2 (D.I.length + 1) c2, ?_⟩
  show Own W w (box t (.cells #[.slice p2 (D.I.length + 1) c2, .pointer (some ⟨k, 0, none⟩)] 96) :: row 82 4 (.slice p2 (D.I.length + 1) c2) ((D.I ++ [({ b := yb, o := yo, a := ya, s := 1 } : ItemS)]).map itemC) :: bkE k u pm bm D.P :: M)
  rw [hpc.out]
  exact HO.tail
end Go.Proofs.YtibabfedpdoofaaGreatDoor
namespace Go.Proofs.YtibabfedpdoofaaGreatDoor
open Go.RowKit Go.Own Go.Maps

set_option maxHeartbeats 8000000 in
set_option maxRecDepth 100000 in
theorem rdOpen_any {W : World} {t : Nat} {v u : Value} {D : DkS} {x : RcA} {S : CoS} {A : InS} (h : RdAt W t v u D) (hc : RcAt W x S A) (hI : ItOk D.I) (hB : Bk S.P) (hs : ∀ p ∈ S.P, smallOk p) (hl : S.P.length ≤ 100000) (o : Int) :
    Calls Tryz.prog 56 #[.pointer (some ⟨t, 0, none⟩), .pointer (some ⟨x.r, 0, none⟩), .int .i64 o] W fun e w' => e = .returned (.tuple #[.int .i64 (openD S D.I o).1, .bool (openD S D.I o).2]) ∧ Below W.heap.size W w' := by
  have HO := Own.start W
  have LF := fun w' (hb : Below W.heap.size W w') => rdLeftHeld_any (h.below hb) (hc.below hb) hI hB hs hl (o := o)
  obtain ⟨p, c, hv, hmx⟩ := hc.s.l.slice
  rw [List.length_map] at hv
  have c0 := old_cell hc.box 0 rfl
  have hlt := old_lt hc.box
  rw [hv] at c0
  clear h hc hI hB hs
  by_cases h1 : o < 1
  · rw [openD_no (ordAt_no (.inl h1))]
    have d1 : decide (o < 1) = true := decide_eq_true h1
    clear LF h1
    go_enter Tryz.func56, Tryz.ntmps56
    go_wp2_with (fail)
    go_ret2
    exact ⟨rfl, HO.grown⟩
  have d1 : decide (o < 1) = false := decide_eq_false h1
  by_cases h2 : (S.L.length : Int) < o
  · rw [openD_no (ordAt_no (.inr h2))]
    have d2 : decide ((S.L.length : Int) < o) = true := decide_eq_true h2
    clear LF h1 h2
    go_enter Tryz.func56, Tryz.ntmps56
    go_wp2_with (((with_reducible apply wpList_loadOld1 HO); exact rfl; exact rfl; exact hlt; exact c0; infer_instance; exact rfl; (simp only [Act.put, zA, zB, zC])))
    go_ret2
    exact ⟨rfl, HO.grown⟩
  have d2 : decide ((S.L.length : Int) < o) = false := decide_eq_false h2
  rw [openD_yes (ordAt_yes (L := S.L) (id := o) (j := (o - 1).toNat) (by omega) (by omega))]
  generalize leftF D.I (bal S.P 1 o) o heldS = g at *
  obtain ⟨g1, g2⟩ := g
  clear h1 h2
  go_enter Tryz.func56, Tryz.ntmps56
  go_wp2_with (first | ((with_reducible apply wpList_loadOld1 HO); exact rfl; exact rfl; exact hlt; exact c0; infer_instance; exact rfl; (simp only [Act.put, zA, zB, zC])) | (go_at_call 113; go_must ((with_reducible refine (LF _ HO.grown).mono ?_); rintro e w ⟨rfl, hb⟩; replace HO := HO.call hb; clear hb)))
  go_ret2
  exact ⟨rfl, HO.grown⟩

theorem isL_cell9 {w : World} {k n c : Nat} {q : Addr} {L : List (List Value)} (h : IsL w k (.slice (some q) n c) L) {j : Nat} (hj : j < L.length) : ∀ i u, L[j][i]? = some u → w.cell? ((q.add (j * k)).add i) = some u := by
  obtain ⟨b, cap, hb, _, _, hR⟩ := h.at (by omega)
  cases hb
  exact fun i u hu => hR.c j hj i u hu
theorem itemC_one (l : List ItemS) : ∀ u ∈ (l.map itemC).flatten, u.oneCell' = true := by
  intro u hu
  obtain ⟨x, hx, hu⟩ := List.mem_flatten.1 hu
  obtain ⟨p, _, rfl⟩ := List.mem_map.1 hx
  simp only [itemC, List.mem_cons, List.not_mem_nil, or_false] at hu
  rcases hu with rfl | rfl | rfl | rfl <;> rfl
/-- What is known of the document's core wherever the pieces M stand. -/
def RcM (W : World) (M : List Ent) (x : RcA) (S : CoS) (A : InS) : Prop := ∀ (w : World) (L : List Ent), Own W w L → (∀ e ∈ M, e ∈ L) → RcAt w x S A
theorem RcM.cell {W : World} {M : List Ent} {x : RcA} {S : CoS} {A : InS} (h : RcM W M x S A) {sp : Option Addr} {n c : Nat} (hv : x.v = .slice sp n c) (w : World) (L : List Ent) (hO : Own W w L) (hm : ∀ e ∈ M, e ∈ L) : w.cell? ⟨x.r, 0, none⟩ = some (.slice sp n c) := by
  rw [← hv]
  exact old_cell (h w L hO hm).box 0 rfl
theorem RcM.saga {W : World} {M : List Ent} {x : RcA} {S : CoS} {A : InS} (h : RcM W M x S A) {q : Addr} {n c : Nat} (hv : x.v = .slice (some q) n c) {k : Nat} (hk : k < S.L.length) (w : World) (L : List Ent) (hO : Own W w L) (hm : ∀ e ∈ M, e ∈ L) : ∀ i u, (sagaL S.L[k])[i]? = some u → w.cell? ((q.add (k * 12)).add i) = some u := fun i u hu => by
  have h1 := (h w L hO hm).s.l
  rw [hv] at h1
  exact isL_cell9 h1 (j := k) (by simpa using hk) i u (by simpa using hu)

set_option maxHeartbeats 16000000 in
set_option maxRecDepth 100000 in
theorem rdProp_any {W w : World} {M : List Ent} {t : Nat} {v u : Value} {D : DkS} {x : RcA} {S : CoS} {A : InS} (y : ItemS) (HO : Own W w (rdPs t v u D ++ M)) (hc : RcM W M x S A) (hI : ItOk D.I) (hB : Bk S.P) (hs : ∀ p ∈ S.P, smallOk p) (hl : S.P.length ≤ 100000) (hS60 : S.L.length ≤ 60) (hy : inI y.o = true) (hyb : y.b.length ≤ maxLen) (hlen : D.I.length ≤ 1000) :
    Calls Tryz.prog 55 #[.pointer (some ⟨t, 0, none⟩), .pointer (some ⟨x.r, 0, none⟩), .agg #[.string ⟨y.b.toArray⟩, .int .i64 y.o, .int .i64 y.a, .int .i64 y.s]] w fun e w' => e = .returned (.tuple #[.int .i64 (propN S D.I y), .int .i64 (propE S D.I y)]) ∧ ∃ v', Own W w' (rdPs t v' u ⟨propI S D.I y, D.P⟩ ++ M) := by
  have HO1 : Own W w (box t (.cells #[v, u] 108) :: row 111 4 v (D.I.map itemC) :: row 187 5 u (D.P.map pstC) :: M) := HO
  clear HO
  have HO := HO1
  clear HO1
  obtain ⟨⟨p, c, hv⟩, -⟩ := HO.rowForm (t := 111) (k := 4) (v := v) (by (repeat (with_reducible (first | exact At.head _ | apply At.tail))))
  rw [List.length_map] at hv
  subst hv
  obtain ⟨sp, sc, hxv, -⟩ := (hc _ _ HO (fun e he => .tail _ (.tail _ (.tail _ he)))).s.l.slice
  rw [List.length_map] at hxv
  have RA := Lib.hid (fun (w : World) (X : List Ent) (h : Own W w (X ++ (box t (.cells #[.slice p D.I.length c, u] 108) :: row 111 4 (.slice p D.I.length c) (D.I.map itemC) :: row 187 5 u (D.P.map pstC) :: M))) => (Own.rdAt h (fun e he => List.mem_append_right X (List.mem_append_left M he)) : RdAt w t (.slice p D.I.length c) u D))
  have CA := Lib.hid (fun (w : World) (X : List Ent) (h : Own W w (X ++ (box t (.cells #[.slice p D.I.length c, u] 108) :: row 111 4 (.slice p D.I.length c) (D.I.map itemC) :: row 187 5 u (D.P.map pstC) :: M))) => hc w _ h (fun e he => List.mem_append_right _ (.tail _ (.tail _ (.tail _ he)))))
  have CB := Lib.hid (fun (w : World) (Z : Ent) (h : Own W w (Z :: box t (.cells #[.slice p D.I.length c, u] 108) :: row 111 4 (.slice p D.I.length c) (D.I.map itemC) :: row 187 5 u (D.P.map pstC) :: M)) => hc.cell hxv w _ h (fun e he => .tail _ (.tail _ (.tail _ (.tail _ he)))))
  have OP := Lib.hid (fun (w : World) (h : RdAt w t (.slice p D.I.length c) u D) (h2 : RcAt w x S A) => rdOpen_any h h2 hI hB hs hl y.o)
  have hlx : (D.I.length : Int) ≤ 1000 := by omega
  have hyI := inI_iff.1 hy
  unfold maxLen at hyb
  clear hI hB hs hy
  obtain ⟨yb, yo, ya, ys⟩ := y
  simp only at *
  cases hw : whoB yb
  · obtain ⟨e1, e2, e3⟩ := prop_who (S := S) (I := D.I) (x := ⟨yb, yo, ya, ys⟩) hw
    rw [e1, e2, e3]
    unfold whoB at hw
    rw [decide_eq_false_iff_not] at hw
    clear e1 e2 e3 OP CA CB RA hc
    by_cases h0 : yb.length = 0
    · have d1 : decide ((yb.length : Int) < 1) = true := decide_eq_true (by omega)
      clear h0 hw
      go_enter Tryz.func55, Tryz.ntmps55
      go_wp2_with (first | go_big_skip | (((with_reducible apply wpList_loadOne HO); exact rfl; exact rfl; (repeat (with_reducible (exact At.head _))); exact rfl; infer_instance; exact rfl; (simp only [Act.put, zA, zB, zC]))) | (((with_reducible apply wpList_boxAgg _ HO rfl); exact rfl; exact rfl; exact rfl; clear HO; intro b5 w HO; (simp only [Act.put, zA, zB, zC]))))
      go_ret2
      exact ⟨rfl, _, HO.tail⟩
    · have d1 : decide ((yb.length : Int) < 1) = false := decide_eq_false (by omega)
      have d2 : decide ((16 : Int) < (yb.length : Int)) = true := decide_eq_true (by omega)
      clear h0 hw
      go_enter Tryz.func55, Tryz.ntmps55
      go_wp2_with (first | (((with_reducible apply wpList_loadOne HO); exact rfl; exact rfl; (repeat (with_reducible (exact At.head _))); exact rfl; infer_instance; exact rfl; (simp only [Act.put, zA, zB, zC]))) | (((with_reducible apply wpList_boxAgg _ HO rfl); exact rfl; exact rfl; exact rfl; clear HO; intro b5 w HO; (simp only [Act.put, zA, zB, zC]))))
      go_ret2
      exact ⟨rfl, _, HO.tail⟩
  have hw1 := hw
  unfold whoB at hw1
  rw [decide_eq_true_eq] at hw1
  have d1 : decide ((yb.length : Int) < 1) = false := decide_eq_false (by omega)
  have d2 : decide ((16 : Int) < (yb.length : Int)) = false := decide_eq_false (by omega)
  clear hw1
  by_cases h1 : yo < 1
  · obtain ⟨e1, e2, e3⟩ := prop_none (S := S) (I := D.I) (x := ⟨yb, yo, ya, ys⟩) hw (ordAt_no (.inl h1))
    rw [e1, e2, e3]
    have d3 : decide (yo < 1) = true := decide_eq_true h1
    clear e1 e2 e3 OP CA RA hc hw h1
    go_enter Tryz.func55, Tryz.ntmps55
    go_upto_region 3 with (first | (((with_reducible apply wpList_loadOne HO); exact rfl; exact rfl; (repeat (with_reducible (exact At.head _))); exact rfl; infer_instance; exact rfl; (simp only [Act.put, zA, zB, zC]))) | (((with_reducible apply wpList_boxAgg _ HO rfl); exact rfl; exact rfl; exact rfl; clear HO; intro b5 w HO; (simp only [Act.put, zA, zB, zC]))))
    refine region_own HO (by kernel_rfl) (by kernel_rfl) ?_
    clear HO
    intro F HF
    repeat (first | ((first | go_big_quiet_skip | ((with_reducible apply wpQuiet_loadOne HF); exact rfl; exact rfl; (repeat (with_reducible (exact At.head _))); exact rfl; infer_instance; exact rfl; (simp only [Act.put, zA, zB, zC])))) | go_big_quiet_step (fail))
    refine wpQuiet_nil ?_
    intro x
    have HO := HF.own x
    clear HF
    generalize F x = w at *
    clear x F
    go_wp2_with (fail)
    go_ret2
    exact ⟨rfl, _, HO.tail⟩
  have d3 : decide (yo < 1) = false := decide_eq_false h1
  by_cases h2 : (S.L.length : Int) < yo
  · obtain ⟨e1, e2, e3⟩ := prop_none (S := S) (I := D.I) (x := ⟨yb, yo, ya, ys⟩) hw (ordAt_no (.inr h2))
    rw [e1, e2, e3]
    have d4 : decide ((S.L.length : Int) < yo) = true := decide_eq_true h2
    clear e1 e2 e3 OP CA RA hc hw h1 h2
    go_enter Tryz.func55, Tryz.ntmps55
    go_upto_region 3 with (first | (((with_reducible apply wpList_loadOne HO); exact rfl; exact rfl; (repeat (with_reducible (exact At.head _))); exact rfl; infer_instance; exact rfl; (simp only [Act.put, zA, zB, zC]))) | (((with_reducible apply wpList_boxAgg _ HO rfl); exact rfl; exact rfl; exact rfl; clear HO; intro b5 w HO; (simp only [Act.put, zA, zB, zC]))))
    refine region_own HO (by kernel_rfl) (by kernel_rfl) ?_
    clear HO
    intro F HF
    repeat (first | (first | (((with_reducible apply wpQuiet_loadOne HF); exact rfl; exact rfl; (repeat (with_reducible (first | exact At.head _ | apply At.tail))); exact rfl; infer_instance; exact rfl; (simp only [Act.put, zA, zB, zC]))) | ((with_reducible apply wpQuiet_loadAt1 HF); exact rfl; exact rfl; exact (fun w' h1 => CB.out w' _ h1); infer_instance; exact rfl; (simp only [Act.put, zA, zB, zC]))) | go_big_quiet_step (fail))
    refine wpQuiet_nil ?_
    intro x
    have HO := HF.own x
    clear HF
    generalize F x = w at *
    clear x F
    go_wp2_with (fail)
    go_ret2
    exact ⟨rfl, _, HO.tail⟩
  have d4 : decide ((S.L.length : Int) < yo) = false := decide_eq_false h2
  obtain ⟨k, hyk⟩ : ∃ k : Nat, yo = (k : Int) + 1 := ⟨(yo - 1).toNat, by omega⟩
  have hk : k < S.L.length := by omega
  have hkI : (k : Int) < (S.L.length : Int) := by omega
  have e9 : IntKind.i64.wrap (yo - 1) = (k : Int) := by rw [show yo - 1 = (k : Int) by omega, wrap_in (inI_iff.2 (by omega))]
  have hx := ordAt_yes (L := S.L) (id := yo) hyk hk
  obtain ⟨q, rfl⟩ : ∃ q, sp = some q := by
    have h9 := (hc _ _ HO (fun e he => .tail _ (.tail _ (.tail _ he)))).s.l
    rw [hxv] at h9
    obtain ⟨b, cap, hb, _⟩ := h9.at (by simp; omega)
    simp only [Value.slice.injEq] at hb
    exact ⟨_, hb.1⟩
  have SG := fun (w : World) (Z : Ent) (h : Own W w (Z :: box t (.cells #[.slice p D.I.length c, u] 108) :: row 111 4 (.slice p D.I.length c) (D.I.map itemC) :: row 187 5 u (D.P.map pstC) :: M)) => hc.saga hxv hk w _ h (fun e he => .tail _ (.tail _ (.tail _ (.tail _ he))))
  clear h1 h2 hyk
  generalize S.L[k] = z at *
  obtain ⟨zo, zs⟩ := z
  have WT := fun w => refWaits_any zo zs w
  simp only [sagaV] at WT
  unfold sagaL at SG
  simp only at SG
  replace SG := Lib.hid SG
  replace hx := Lib.hid hx
  replace hc := Lib.hid hc
  cases hwt : (waitsOf zs).2
  rotate_left
  · obtain ⟨e1, e2, e3⟩ := prop_waits (S := S) (I := D.I) (x := ⟨yb, yo, ya, ys⟩) hw hx.out hwt
    rw [e1, e2, e3]
    rw [hwt] at WT
    clear e1 e2 e3 OP CA RA hw hwt
    go_enter Tryz.func55, Tryz.ntmps55
    go_upto_region 3 with (first | (((with_reducible apply wpList_loadOne HO); exact rfl; exact rfl; (repeat (with_reducible (exact At.head _))); exact rfl; infer_instance; exact rfl; (simp only [Act.put, zA, zB, zC]))) | (((with_reducible apply wpList_boxAgg _ HO rfl); exact rfl; exact rfl; exact rfl; clear HO; intro b5 w HO; (simp only [Act.put, zA, zB, zC]))))
    refine region_own HO (by kernel_rfl) (by kernel_rfl) ?_
    clear HO
    intro F HF
    repeat (first | (first | (((with_reducible apply wpQuiet_loadOne HF); exact rfl; exact rfl; (repeat (with_reducible (first | exact At.head _ | apply At.tail))); exact rfl; infer_instance; exact rfl; (simp only [Act.put, zA, zB, zC]))) | ((with_reducible apply wpQuiet_loadAt1 HF); exact rfl; exact rfl; exact (fun w' h1 => CB.out w' _ h1); infer_instance; exact rfl; (simp only [Act.put, zA, zB, zC]))) | go_big_quiet_step (fail))
    refine wpQuiet_nil ?_
    intro x
    have HO := HF.own x
    clear HF
    generalize F x = w at *
    clear x F
    go_upto_region 5 with (fail)
    refine region_own HO (by kernel_rfl) (by kernel_rfl) ?_
    clear HO
    intro F HF
    repeat (first | (first | (((with_reducible apply wpQuiet_loadOne HF); exact rfl; exact rfl; (repeat (with_reducible (first | exact At.head _ | apply At.tail))); exact rfl; infer_instance; exact rfl; (simp only [Act.put, zA, zB, zC]))) | ((with_reducible apply wpQuiet_loadAt1 HF); exact rfl; exact rfl; exact (fun w' h1 => CB.out w' _ h1); infer_instance; exact rfl; (simp only [Act.put, zA, zB, zC])) | ((with_reducible apply wpQuiet_loadAt HF); exact rfl; exact rfl; exact (fun w' h1 => SG.out w' _ h1); infer_instance; exact rfl; exact rfl; (simp only [Act.put, zA, zB, zC]))) | go_big_quiet_step ((go_at_call 118; (with_reducible exact calls_fam HF (WT _)))))
    refine wpQuiet_nil ?_
    intro x
    have HO := HF.own x
    clear HF
    generalize F x = w at *
    clear x F
    go_wp2_with (fail)
    go_ret2
    exact ⟨rfl, _, HO.tail⟩
  rw [hwt] at WT
  have SM := fun w => some_any ya (openD S D.I yo).1 w
  by_cases h1 : (openD S D.I yo).2 = true ∧ withinB ya (openD S D.I yo).1 = true
  rotate_left
  · obtain ⟨e1, e2, e3⟩ := prop_over (S := S) (I := D.I) (x := ⟨yb, yo, ya, ys⟩) hw hx.out hwt h1
    rw [e1, e2, e3]
    clear hw e1 e2 e3 hwt
    generalize openD S D.I yo = g at *
    obtain ⟨g1, g2⟩ := g
    simp only at OP h1 SM
    cases g2
    · clear h1 SM
      go_enter Tryz.func55, Tryz.ntmps55
      go_upto_region 3 with (first | (((with_reducible apply wpList_loadOne HO); exact rfl; exact rfl; (repeat (with_reducible (exact At.head _))); exact rfl; infer_instance; exact rfl; (simp only [Act.put, zA, zB, zC]))) | (((with_reducible apply wpList_boxAgg _ HO rfl); exact rfl; exact rfl; exact rfl; clear HO; intro b5 w HO; (simp only [Act.put, zA, zB, zC]))))
      refine region_own HO (by kernel_rfl) (by kernel_rfl) ?_
      clear HO
      intro F HF
      repeat (first | (first | (((with_reducible apply wpQuiet_loadOne HF); exact rfl; exact rfl; (repeat (with_reducible (first | exact At.head _ | apply At.tail))); exact rfl; infer_instance; exact rfl; (simp only [Act.put, zA, zB, zC]))) | ((with_reducible apply wpQuiet_loadAt1 HF); exact rfl; exact rfl; exact (fun w' h1 => CB.out w' _ h1); infer_instance; exact rfl; (simp only [Act.put, zA, zB, zC]))) | go_big_quiet_step (fail))
      refine wpQuiet_nil ?_
      intro x
      have HO := HF.own x
      clear HF
      generalize F x = w at *
      clear x F
      go_upto_region 5 with (fail)
      refine region_own HO (by kernel_rfl) (by kernel_rfl) ?_
      clear HO
      intro F HF
      repeat (first | (first | (((with_reducible apply wpQuiet_loadOne HF); exact rfl; exact rfl; (repeat (with_reducible (first | exact At.head _ | apply At.tail))); exact rfl; infer_instance; exact rfl; (simp only [Act.put, zA, zB, zC]))) | ((with_reducible apply wpQuiet_loadAt1 HF); exact rfl; exact rfl; exact (fun w' h1 => CB.out w' _ h1); infer_instance; exact rfl; (simp only [Act.put, zA, zB, zC])) | ((with_reducible apply wpQuiet_loadAt HF); exact rfl; exact rfl; exact (fun w' h1 => SG.out w' _ h1); infer_instance; exact rfl; exact rfl; (simp only [Act.put, zA, zB, zC]))) | go_big_quiet_step ((go_at_call 118; (with_reducible exact calls_fam HF (WT _)))))
      refine wpQuiet_nil ?_
      intro x
      have HO := HF.own x
      clear HF
      generalize F x = w at *
      clear x F
      go_wp2_with (first | go_big_skip | (((with_reducible apply wpList_loadOne HO); exact rfl; exact rfl; (repeat (with_reducible (exact At.head _))); exact rfl; infer_instance; exact rfl; (simp only [Act.put, zA, zB, zC]))) | (go_at_call 56; go_must ((with_reducible refine (OP.out _ (RA.out _ [_] HO) (CA.out _ [_] HO)).mono ?_); rintro e w ⟨rfl, hb⟩; replace HO := HO.call hb; clear hb)))
      go_ret2
      exact ⟨rfl, _, HO.tail⟩
    · have hwb : withinB ya g1 = false := by rw [← Bool.not_eq_true]; exact fun hh => h1 ⟨rfl, hh⟩
      rw [hwb] at SM
      clear h1 hwb
      go_enter Tryz.func55, Tryz.ntmps55
      go_upto_region 3 with (first | (((with_reducible apply wpList_loadOne HO); exact rfl; exact rfl; (repeat (with_reducible (exact At.head _))); exact rfl; infer_instance; exact rfl; (simp only [Act.put, zA, zB, zC]))) | (((with_reducible apply wpList_boxAgg _ HO rfl); exact rfl; exact rfl; exact rfl; clear HO; intro b5 w HO; (simp only [Act.put, zA, zB, zC]))))
      refine region_own HO (by kernel_rfl) (by kernel_rfl) ?_
      clear HO
      intro F HF
      repeat (first | (first | (((with_reducible apply wpQuiet_loadOne HF); exact rfl; exact rfl; (repeat (with_reducible (first | exact At.head _ | apply At.tail))); exact rfl; infer_instance; exact rfl; (simp only [Act.put, zA, zB, zC]))) | ((with_reducible apply wpQuiet_loadAt1 HF); exact rfl; exact rfl; exact (fun w' h1 => CB.out w' _ h1); infer_instance; exact rfl; (simp only [Act.put, zA, zB, zC]))) | go_big_quiet_step (fail))
      refine wpQuiet_nil ?_
      intro x
      have HO := HF.own x
      clear HF
      generalize F x = w at *
      clear x F
      go_upto_region 5 with (fail)
      refine region_own HO (by kernel_rfl) (by kernel_rfl) ?_
      clear HO
      intro F HF
      repeat (first | (first | (((with_reducible apply wpQuiet_loadOne HF); exact rfl; exact rfl; (repeat (with_reducible (first | exact At.head _ | apply At.tail))); exact rfl; infer_instance; exact rfl; (simp only [Act.put, zA, zB, zC]))) | ((with_reducible apply wpQuiet_loadAt1 HF); exact rfl; exact rfl; exact (fun w' h1 => CB.out w' _ h1); infer_instance; exact rfl; (simp only [Act.put, zA, zB, zC])) | ((with_reducible apply wpQuiet_loadAt HF); exact rfl; exact rfl; exact (fun w' h1 => SG.out w' _ h1); infer_instance; exact rfl; exact rfl; (simp only [Act.put, zA, zB, zC]))) | go_big_quiet_step ((go_at_call 118; (with_reducible exact calls_fam HF (WT _)))))
      refine wpQuiet_nil ?_
      intro x
      have HO := HF.own x
      clear HF
      generalize F x = w at *
      clear x F
      go_wp2_with (first | (((with_reducible apply wpList_loadOne HO); exact rfl; exact rfl; (repeat (with_reducible (exact At.head _))); exact rfl; infer_instance; exact rfl; (simp only [Act.put, zA, zB, zC]))) | (go_at_call 56; go_must ((with_reducible refine (OP.out _ (RA.out _ [_] HO) (CA.out _ [_] HO)).mono ?_); rintro e w ⟨rfl, hb⟩; replace HO := HO.call hb; clear hb)) | (go_at_call 114; go_must ((with_reducible refine (SM _).mono ?_); rintro e w ⟨rfl, hb⟩; replace HO := HO.call hb; clear hb)))
      go_ret2
      exact ⟨rfl, _, HO.tail⟩
  by_cases h2 : D.I.length < 100
  rotate_left
  · obtain ⟨e1, e2, e3⟩ := prop_full (S := S) (I := D.I) (x := ⟨yb, yo, ya, ys⟩) hw hx.out hwt h1 h2
    rw [e1, e2, e3]
    have hd : decide ((99 : Int) < (D.I.length : Int)) = true := decide_eq_true (by omega)
    obtain ⟨h3, h4⟩ := h1
    rw [h4] at SM
    clear hw e1 e2 e3 hwt h2 h4
    generalize openD S D.I yo = g at *
    obtain ⟨g1, g2⟩ := g
    simp only at OP h3 SM
    subst h3
    go_enter Tryz.func55, Tryz.ntmps55
    go_upto_region 3 with (first | (((with_reducible apply wpList_loadOne HO); exact rfl; exact rfl; (repeat (with_reducible (exact At.head _))); exact rfl; infer_instance; exact rfl; (simp only [Act.put, zA, zB, zC]))) | (((with_reducible apply wpList_boxAgg _ HO rfl); exact rfl; exact rfl; exact rfl; clear HO; intro b5 w HO; (simp only [Act.put, zA, zB, zC]))))
    refine region_own HO (by kernel_rfl) (by kernel_rfl) ?_
    clear HO
    intro F HF
    repeat (first | (first | (((with_reducible apply wpQuiet_loadOne HF); exact rfl; exact rfl; (repeat (with_reducible (first | exact At.head _ | apply At.tail))); exact rfl; infer_instance; exact rfl; (simp only [Act.put, zA, zB, zC]))) | ((with_reducible apply wpQuiet_loadAt1 HF); exact rfl; exact rfl; exact (fun w' h1 => CB.out w' _ h1); infer_instance; exact rfl; (simp only [Act.put, zA, zB, zC]))) | go_big_quiet_step (fail))
    refine wpQuiet_nil ?_
    intro x
    have HO := HF.own x
    clear HF
    generalize F x = w at *
    clear x F
    go_upto_region 5 with (fail)
    refine region_own HO (by kernel_rfl) (by kernel_rfl) ?_
    clear HO
    intro F HF
    repeat (first | (first | (((with_reducible apply wpQuiet_loadOne HF); exact rfl; exact rfl; (repeat (with_reducible (first | exact At.head _ | apply At.tail))); exact rfl; infer_instance; exact rfl; (simp only [Act.put, zA, zB, zC]))) | ((with_reducible apply wpQuiet_loadAt1 HF); exact rfl; exact rfl; exact (fun w' h1 => CB.out w' _ h1); infer_instance; exact rfl; (simp only [Act.put, zA, zB, zC])) | ((with_reducible apply wpQuiet_loadAt HF); exact rfl; exact rfl; exact (fun w' h1 => SG.out w' _ h1); infer_instance; exact rfl; exact rfl; (simp only [Act.put, zA, zB, zC]))) | go_big_quiet_step ((go_at_call 118; (with_reducible exact calls_fam HF (WT _)))))
    refine wpQuiet_nil ?_
    intro x
    have HO := HF.own x
    clear HF
    generalize F x = w at *
    clear x F
    go_wp2_with (first | (((with_reducible apply wpList_loadOne HO); exact rfl; exact rfl; (repeat (with_reducible (first | exact At.head _ | apply At.tail))); exact rfl; infer_instance; exact rfl; (simp only [Act.put, zA, zB, zC]))) | (go_at_call 56; go_must ((with_reducible refine (OP.out _ (RA.out _ [_] HO) (CA.out _ [_] HO)).mono ?_); rintro e w ⟨rfl, hb⟩; replace HO := HO.call hb; clear hb)) | (go_at_call 114; go_must ((with_reducible refine (SM _).mono ?_); rintro e w ⟨rfl, hb⟩; replace HO := HO.call hb; clear hb)))
    go_ret2
    exact ⟨rfl, _, HO.tail⟩
  obtain ⟨e1, e2, e3⟩ := prop_yes (S := S) (I := D.I) (x := ⟨yb, yo, ya, ys⟩) hw hx.out hwt h1 h2
  rw [e1, e2, e3]
  have hd : decide ((99 : Int) < (D.I.length : Int)) = false := decide_eq_false (by omega)
  obtain ⟨h3, h4⟩ := h1
  rw [h4] at SM
  have hlm0 : ([] : List (List Value)).length + (D.I.map itemC).length ≤ 1000000 := by rw [List.length_map]; simp; omega
  have hlm : ([] ++ D.I.map itemC).length + 1 ≤ 1000000 := by rw [List.nil_append, List.length_map]; omega
  have hpc := Lib.hid (show (D.I ++ [({ b := yb, o := yo, a := ya, s := 1 } : ItemS)]).map itemC = D.I.map itemC ++ [[.string ⟨yb.toArray⟩, .int .i64 yo, .int .i64 ya, .int .i64 1]] by simp [itemC])
  have HL := Lib.hid (itemC_len D.I)
  have H1 := Lib.hid (itemC_one D.I)
  clear hw e1 e2 e3 hwt h2 h4
  generalize openD S D.I yo = g at *
  obtain ⟨g1, g2⟩ := g
  simp only at OP h3 SM
  subst h3
  go_enter Tryz.func55, Tryz.ntmps55
  go_upto_region 3 with (first | (((with_reducible apply wpList_loadOne HO); exact rfl; exact rfl; (repeat (with_reducible (exact At.head _))); exact rfl; infer_instance; exact rfl; (simp only [Act.put, zA, zB, zC]))) | (((with_reducible apply wpList_boxAgg _ HO rfl); exact rfl; exact rfl; exact rfl; clear HO; intro b5 w HO; (simp only [Act.put, zA, zB, zC]))))
  refine region_own HO (by kernel_rfl) (by kernel_rfl) ?_
  clear HO
  intro F HF
  repeat (first | (first | (((with_reducible apply wpQuiet_loadOne HF); exact rfl; exact rfl; (repeat (with_reducible (first | exact At.head _ | apply At.tail))); exact rfl; infer_instance; exact rfl; (simp only [Act.put, zA, zB, zC]))) | ((with_reducible apply wpQuiet_loadAt1 HF); exact rfl; exact rfl; exact (fun w' h1 => CB.out w' _ h1); infer_instance; exact rfl; (simp only [Act.put, zA, zB, zC]))) | go_big_quiet_step (fail))
  refine wpQuiet_nil ?_
  intro x
  have HO := HF.own x
  clear HF
  generalize F x = w at *
  clear x F
  go_upto_region 5 with (fail)
  refine region_own HO (by kernel_rfl) (by kernel_rfl) ?_
  clear HO
  intro F HF
  repeat (first | (first | (((with_reducible apply wpQuiet_loadOne HF); exact rfl; exact rfl; (repeat (with_reducible (first | exact At.head _ | apply At.tail))); exact rfl; infer_instance; exact rfl; (simp only [Act.put, zA, zB, zC]))) | ((with_reducible apply wpQuiet_loadAt1 HF); exact rfl; exact rfl; exact (fun w' h1 => CB.out w' _ h1); infer_instance; exact rfl; (simp only [Act.put, zA, zB, zC])) | ((with_reducible apply wpQuiet_loadAt HF); exact rfl; exact rfl; exact (fun w' h1 => SG.out w' _ h1); infer_instance; exact rfl; exact rfl; (simp only [Act.put, zA, zB, zC]))) | go_big_quiet_step ((go_at_call 118; (with_reducible exact calls_fam HF (WT _)))))
  refine wpQuiet_nil ?_
  intro x
  have HO := HF.own x
  clear HF
  generalize F x = w at *
  clear x F
  go_upto_region 14 with (first | (((with_reducible apply wpList_loadOne HO); exact rfl; exact rfl; (repeat (with_reducible (first | exact At.head _ | apply At.tail))); exact rfl; infer_instance; exact rfl; (simp only [Act.put, zA, zB, zC]))) | ((with_reducible apply wpList_storeOne HO); exact rfl; exact rfl; ((simp [Act.eval]; rfl)); exact rfl; (repeat (with_reducible (exact At.head _))); infer_instance; exact (by simp); (simp only [List.set_cons_succ, List.set_cons_zero]; rfl); exact rfl; clear HO; intro w HO; (simp only [Act.put])) | (go_at_call 56; go_must ((with_reducible refine (OP.out _ (RA.out _ [_] HO) (CA.out _ [_] HO)).mono ?_); rintro e w ⟨rfl, hb⟩; replace HO := HO.call hb; clear hb)) | (go_at_call 114; go_must ((with_reducible refine (SM _).mono ?_); rintro e w ⟨rfl, hb⟩; replace HO := HO.call hb; clear hb)))
  clear OP RA CA CB SG WT SM hc hx d1 d2 d3 d4 hd e9
  replace HO := HO.nil 111 4
  replace HO := HO.swap
  refine region_tree ([box b5 (.cells #[.string ⟨yb.toArray⟩, .int .i64 yo, .int .i64 ya, .int .i64 1] 111), box t (.cells #[.slice p D.I.length c, u] 108)]) [(0, true), (1, true), (2, true), (3, true), (4, true), (6, true), (5, false), (7, false), (8, false), (9, true), (10, true), (11, false)] ((.fork [(0, true), (1, true), (2, true), (3, true), (4, true), (6, true)] 5 7 (.fin [(7, false), (8, false), (9, true), (10, true), (11, false)]) (.fin [(5, false), (8, false), (9, true), (10, true), (11, false)]))) HO (by with_reducible (repeat (first | exact List.nil_sublist _ | apply List.Sublist.cons_cons | apply List.Sublist.cons))) (by kernel_rfl) (by kernel_rfl) ?_
  clear HO
  intro w HO
  refine wpS_fork ?_
  repeat (first | ((with_reducible apply wpSched_loadOne); exact rfl; exact rfl; exact rfl; (repeat (with_reducible (first | exact At.head _ | apply At.tail))); exact rfl; infer_instance; exact rfl; (simp only [Act.put, zA, zB, zC])) | ((with_reducible apply wpSched_loadAll); exact rfl; exact rfl; exact rfl; (repeat (with_reducible (exact At.head _))); infer_instance; exact rfl; exact rfl; (simp only [Act.put, zA, zB, zC])) | ((with_reducible apply wpSched_pure); exact rfl; exact rfl; (intro w'; go_simp; try with_reducible rfl); (simp only [Act.put, zA, zB, zC])))
  refine fork_end rfl rfl ?_ ?_
  · ((with_reducible apply wpList_appendAll HO); exact rfl; infer_instance; infer_instance; ((simp [Act.eval]; rfl)); exact rfl; exact (isL_of_owns (itemC_len D.I) (HO.has (row 111 4 (.slice p D.I.length c) (D.I.map itemC)) (by repeat (first | exact List.mem_cons_self | apply List.mem_cons_of_mem)))); exact HL.out; exact H1.out; intro _; (repeat (with_reducible (first | exact At.head _ | apply At.tail))); (omega); decide; exact rfl; clear HO; intro v2 w HO hv2; (simp only [Act.put, zA, zB, zC]))
    refine wpList_nil (thenQ_keep (HO.held (by with_reducible (repeat (first | exact List.nil_sublist _ | apply List.Sublist.cons_cons | apply List.Sublist.cons)))) ?_)
    refine wpS_fin ?_
    ((with_reducible apply wpSched_loud); exact rfl; (((with_reducible apply wpList_lit1 HO); exact rfl; infer_instance; infer_instance; exact rfl; exact rfl; exact (by decide); exact rfl; clear HO; intro bl w HO; (simp only [Act.put, zA, zB, zC]))))
    refine wpList_nil (thenQ_keep (HO.held (by with_reducible (repeat (first | exact List.nil_sublist _ | apply List.Sublist.cons_cons | apply List.Sublist.cons)))) ?_)
    ((with_reducible apply wpSched_loud); exact rfl; ((with_reducible apply wpList_push1 HO); exact rfl; infer_instance; infer_instance; ((simp [Act.eval]; rfl)); exact rfl; intro _; (repeat (with_reducible (first | exact At.head _ | apply At.tail))); exact rfl; exact rfl; (omega); decide; exact rfl; clear HO; intro v2 w HO hv2; (simp only [Act.put, zA, zB, zC])))
    obtain ⟨p2, n2, c2, rfl⟩ := hv2
    obtain ⟨⟨p3, c3, hv3⟩, -⟩ := HO.rowForm (t := 111) (k := 4) (v := .slice p2 n2 c2) (by (repeat (with_reducible (first | exact At.head _ | apply At.tail))))
    cases hv3
    simp only [List.nil_append, List.length_append, List.length_map, List.length_cons, List.length_nil, Nat.zero_add] at HO ⊢
    refine wpList_nil (thenQ_keep (HO.held (by with_reducible (repeat (first | exact List.nil_sublist _ | apply List.Sublist.cons_cons | apply List.Sublist.cons)))) ?_)
    repeat (((with_reducible apply wpSched_pure); exact rfl; exact rfl; (intro w'; go_simp; try with_reducible rfl); (simp only [Act.put, zA, zB, zC])))
    ((with_reducible apply wpSched_loud); exact rfl; ((with_reducible apply wpList_storeOne HO); exact rfl; exact rfl; ((simp [Act.eval]; rfl)); exact rfl; (repeat (with_reducible (first | exact At.head _ | apply At.tail))); infer_instance; exact (by simp); (simp only [List.set_cons_zero]; rfl); exact rfl; clear HO; intro w HO; (simp only [Act.put])))
    refine wpList_nil (thenQ_free (by kernel_rfl) ?_)
    refine wpSched_end ?_
    go_wp2_with ((((with_reducible apply wpList_loadOne HO); exact rfl; exact rfl; (repeat (with_reducible (first | exact At.head _ | apply At.tail))); exact rfl; infer_instance; exact rfl; (simp only [Act.put, zA, zB, zC]))))
    go_ret2
    refine ⟨by first | rfl | (congr 3), .slice p2 (D.I.length + 1) c2, ?_⟩
    show Own W w (box t (.cells #[.slice p2 (D.I.length + 1) c2, u] 108) :: row 111 4 (.slice p2 (D.I.length + 1) c2) ((D.I ++ [({ b := yb, o := yo, a := ya, s := 1 } : ItemS)]).map itemC) :: row 187 5 u (D.P.map pstC) :: M)
    rw [hpc.out]
    exact HO.tail.swap.sub (.cons_cons _ (.cons_cons _ (.cons _ (List.Sublist.refl _))))
  · (((with_reducible apply wpList_lit1 HO); exact rfl; infer_instance; infer_instance; exact rfl; exact rfl; exact (by decide); exact rfl; clear HO; intro bl w HO; (simp only [Act.put, zA, zB, zC])))
    refine wpList_nil (thenQ_keep (HO.held (by with_reducible (repeat (first | exact List.nil_sublist _ | apply List.Sublist.cons_cons | apply List.Sublist.cons)))) ?_)
    refine wpS_fin ?_
    ((with_reducible apply wpSched_loud); exact rfl; ((with_reducible apply wpList_appendAll HO); exact rfl; infer_instance; infer_instance; ((simp [Act.eval]; rfl)); exact rfl; exact (isL_of_owns (itemC_len D.I) (HO.has (row 111 4 (.slice p D.I.length c) (D.I.map itemC)) (by repeat (first | exact List.mem_cons_self | apply List.mem_cons_of_mem)))); exact HL.out; exact H1.out; intro _; (repeat (with_reducible (first | exact At.head _ | apply At.tail))); (omega); decide; exact rfl; clear HO; intro v2 w HO hv2; (simp only [Act.put, zA, zB, zC])))
    refine wpList_nil (thenQ_keep (HO.held (by with_reducible (repeat (first | exact List.nil_sublist _ | apply List.Sublist.cons_cons | apply List.Sublist.cons)))) ?_)
    ((with_reducible apply wpSched_loud); exact rfl; ((with_reducible apply wpList_push1 HO); exact rfl; infer_instance; infer_instance; ((simp [Act.eval]; rfl)); exact rfl; intro _; (repeat (with_reducible (first | exact At.head _ | apply At.tail))); exact rfl; exact rfl; (omega); decide; exact rfl; clear HO; intro v2 w HO hv2; (simp only [Act.put, zA, zB, zC])))
    obtain ⟨p2, n2, c2, rfl⟩ := hv2
    obtain ⟨⟨p3, c3, hv3⟩, -⟩ := HO.rowForm (t := 111) (k := 4) (v := .slice p2 n2 c2) (by (repeat (with_reducible (first | exact At.head _ | apply At.tail))))
    cases hv3
    simp only [List.nil_append, List.length_append, List.length_map, List.length_cons, List.length_nil, Nat.zero_add] at HO ⊢
    refine wpList_nil (thenQ_keep (HO.held (by with_reducible (repeat (first | exact List.nil_sublist _ | apply List.Sublist.cons_cons | apply List.Sublist.cons)))) ?_)
    repeat (((with_reducible apply wpSched_pure); exact rfl; exact rfl; (intro w'; go_simp; try with_reducible rfl); (simp only [Act.put, zA, zB, zC])))
    ((with_reducible apply wpSched_loud); exact rfl; ((with_reducible apply wpList_storeOne HO); exact rfl; exact rfl; ((simp [Act.eval]; rfl)); exact rfl; (repeat (with_reducible (first | exact At.head _ | apply At.tail))); infer_instance; exact (by simp); (simp only [List.set_cons_zero]; rfl); exact rfl; clear HO; intro w HO; (simp only [Act.put])))
    refine wpList_nil (thenQ_free (by kernel_rfl) ?_)
    refine wpSched_end ?_
    go_wp2_with ((((with_reducible apply wpList_loadOne HO); exact rfl; exact rfl; (repeat (with_reducible (first | exact At.head _ | apply At.tail))); exact rfl; infer_instance; exact rfl; (simp only [Act.put, zA, zB, zC]))))
    go_ret2
    refine ⟨by first | rfl | (congr 3), .slice p2 (D.I.length + 1) c2, ?_⟩
    show Own W w (box t (.cells #[.slice p2 (D.I.length + 1) c2, u] 108) :: row 111 4 (.slice p2 (D.I.length + 1) c2) ((D.I ++ [({ b := yb, o := yo, a := ya, s := 1 } : ItemS)]).map itemC) :: row 187 5 u (D.P.map pstC) :: M)
    rw [hpc.out]
    exact HO.tail.swap.sub (.cons_cons _ (.cons_cons _ (.cons _ (List.Sublist.refl _))))
end Go.Proofs.YtibabfedpdoofaaGreatDoor
namespace Go.Proofs.YtibabfedpdoofaaGreatDoor
open Go.RowKit Go.Own Go.Maps

set_option maxHeartbeats 4000000 in
theorem mNeg_any {a : Int} (ha : inI a = true) (w : World) : Calls Tryz.prog 110 #[.int .i64 a] w fun e w' => e = .returned (.tuple #[.int .i64 (subI 0 a).1, .bool (subI 0 a).2]) ∧ Below w.heap.size w w' := by
  have HO := Own.start w
  have SB := fun w => mSub_any (a := 0) rfl ha w
  generalize subI 0 a = r at *
  obtain ⟨r1, r2⟩ := r
  simp only at SB
  go_enter Tryz.func110, Tryz.ntmps110
  go_wp2_with ((go_at_call 49; go_must ((with_reducible refine (SB _).mono ?_); rintro e w ⟨rfl, hb⟩; replace HO := HO.call hb; clear hb)))
  go_ret2
  exact ⟨rfl, HO.grown⟩
theorem appr_pend {S : CoS} {D : DkS} {b : List UInt8} {n : Int} (h : pendE D.I b n ≠ 0) : apprE S D b n = pendE D.I b n ∧ apprD S D b n = D := by
  have e : apprE S D b n = pendE D.I b n := by unfold apprE; rw [if_neg h]
  exact ⟨e, by unfold apprD; rw [if_neg (by rw [e]; exact h)]⟩
theorem appr_at {S : CoS} {D : DkS} {b : List UInt8} {n : Int} {z : ItemS} (h : pendE D.I b n = 0) (hx : itemAt D.I n = some z) : apprE S D b n = apprX S D b n z := by unfold apprE; rw [if_pos h, hx]
theorem apprD_no {S : CoS} {D : DkS} {b : List UInt8} {n : Int} (h : apprE S D b n ≠ 0) : apprD S D b n = D := by unfold apprD; rw [if_neg h]
theorem apprD_yes {S : CoS} {D : DkS} {b : List UInt8} {n : Int} {z : ItemS} (h : apprE S D b n = 0) (hx : itemAt D.I n = some z) : apprD S D b n = ⟨setI D.I n z 2, postL D.P (wPst n z)⟩ := by unfold apprD; rw [if_pos h, hx]
theorem postL_no {l : List Pst} {p : Pst} (h : postE l p ≠ 0) : postL l p = l := by
  unfold postE at h
  unfold postL
  by_cases hm : mayPst p = true
  · rw [if_pos hm] at h
    cases hf : findP l p.id with
    | some q => rw [if_neg (by simp)]
    | none =>
      rw [hf] at h
      simp only at h
      by_cases hg : fitsPst l p = true
      · rw [if_pos hg] at h; exact absurd rfl h
      · rw [if_neg (by rw [hm]; simpa using hg)]
  · rw [if_neg (by simp [hm])]
theorem wPst_eq (n : Int) (b : List UInt8) (o a s : Int) : wPst n ⟨b, o, a, s⟩ = if a < 0 then ⟨wK n, o, 1, 4, -a⟩ else ⟨wK n, o, 4, 1, a⟩ := rfl

set_option maxHeartbeats 32000000 in
set_option maxRecDepth 100000 in
theorem dkAppr_any {W w : World} {M : List Ent} {x : DkA} {D : DkS} {a : CoA} {S : CoS} {i : InA} {A : InS} {b : List UInt8} {n : Int} (HO : Own W w (dkPs x D ++ M)) (hm : ∀ e ∈ coPs a S i A, e ∈ M) (hI : ItOk D.I) (hBk : Bk D.P) (hB : Bk S.P) (hb : b.length ≤ maxLen) (hi : inI n = true) (hlen : D.P.length ≤ 99000) (hl1 : D.I.length ≤ 1000) (hL : LaidE W) :
    Calls Tryz.prog 47 #[.pointer (some ⟨x.t, 0, none⟩), .pointer (some ⟨a.c, 0, none⟩), .string ⟨b.toArray⟩, .int .i64 n] w fun e w' => e = .returned (.int .i64 (apprE S D b n)) ∧ ∃ u', Own W w' (dkPs { x with u := u' } (apprD S D b n) ++ M) := by
  obtain ⟨t, v, k, u, pm, bm⟩ := x
  have PD := Lib.hid (fun (w : World) (L : List Ent) (h : Own W w L) (hm : ∀ e ∈ dkPs ⟨t, v, k, u, pm, bm⟩ D, e ∈ L) => dkPend_any (Own.dkAt h hm) hb hi)
  simp only at PD ⊢
  by_cases hz : pendE D.I b n = 0
  rotate_left
  · obtain ⟨e1, e2⟩ := appr_pend (S := S) hz
    rw [e1, e2]
    have hd : (pendE D.I b n != 0) = true := by rw [bne_iff_ne]; exact hz
    generalize pendE D.I b n = e9 at *
    clear hz e1 e2
    go_enter Tryz.func47, Tryz.ntmps47
    go_wp2_with ((go_at_call 107; go_must ((with_reducible refine (PD.out _ _ HO (dk_in [] _ _ _)).mono ?_); rintro e w ⟨rfl, hb⟩; replace HO := HO.call hb; clear hb)))
    go_ret
    exact ⟨rfl, _, HO⟩
  obtain ⟨_, j, hj, hn, hs1, hat⟩ := pend_zero hz
  have hE := appr_at (S := S) hz hat
  have hNo := apprD_no (S := S) (D := D) (b := b) (n := n)
  have hYe := fun h => apprD_yes (S := S) (D := D) (b := b) (n := n) h hat
  rw [hz] at PD
  have hset := dk_set D.I hj 2
  have hS2 : setI D.I n D.I[j] 2 = D.I.set j { D.I[j] with s := 2 } := by unfold setI; rw [show (n - 1).toNat = j by omega]
  have HG : (D.I.map itemC)[j]? = some (itemC D.I[j]) := by simp [hj]
  obtain ⟨hzo, hza, -, -⟩ := hI _ (List.getElem_mem hj)
  have hIn := inI_iff.1 hi
  have hjI : (j : Int) < (D.I.length : Int) := by omega
  have e1 : IntKind.i64.wrap (n - 1) = (j : Int) := by rw [show n - 1 = (j : Int) by omega, wrap_in (inI_iff.2 (by omega))]
  have ITO := fun (w : World) (hb : Below W.heap.size W w) => itoaK_any n hIn.1 hIn.2 (hL.below hb)
  have hix : (⟨(Lib.itoa n).toArray⟩ : ByteArray).size ≤ 21 := by
    have := Lib.itoa_length_le n hIn.1 hIn.2
    show (Lib.itoa n).toArray.size ≤ 21
    simpa using this
  have hwk : wK n = (⟨#[119]⟩ : ByteArray) ++ ⟨(Lib.itoa n).toArray⟩ := rfl
  have hapx : apprX S D b n D.I[j] = if D.I[j].b = b then 91 else if (leftF D.I (bal S.P 1 D.I[j].o) D.I[j].o writS).2 = true ∧ withinB D.I[j].a (leftF D.I (bal S.P 1 D.I[j].o) D.I[j].o writS).1 = true then (if D.I[j].a = -9223372036854775808 then 90 else postE D.P (wPst n D.I[j])) else 90 := rfl
  rw [hapx] at hE
  have HO1 : Own W w (box t (.cells #[v, .pointer (some ⟨k, 0, none⟩)] 96) :: row 82 4 v (D.I.map itemC) :: bkE k u pm bm D.P :: M) := HO
  clear HO
  have HO := HO1
  clear HO1
  obtain ⟨q, c, hv⟩ := (HO.rowForm (t := 82) (k := 4) (v := v) (by (repeat (with_reducible (first | exact At.head _ | apply At.tail))))).2 (by rw [List.length_map]; omega)
  rw [List.length_map] at hv
  subst hv
  have PD' := Lib.hid (fun (w : World) (h : Own W w (box t (.cells #[.slice (some q) D.I.length c, .pointer (some ⟨k, 0, none⟩)] 96) :: row 82 4 (.slice (some q) D.I.length c) (D.I.map itemC) :: bkE k u pm bm D.P :: M)) => PD.out w _ h (dk_in [] ⟨t, .slice (some q) D.I.length c, k, u, pm, bm⟩ D M))
  have DA := Lib.hid (fun (w : World) (X : List Ent) (h : Own W w (X ++ (box t (.cells #[.slice (some q) D.I.length c, .pointer (some ⟨k, 0, none⟩)] 96) :: row 82 4 (.slice (some q) D.I.length c) (D.I.map itemC) :: bkE k u pm bm D.P :: M))) => (Own.dkAt h (dk_in X ⟨t, .slice (some q) D.I.length c, k, u, pm, bm⟩ D M) : DkAt w ⟨t, .slice (some q) D.I.length c, k, u, pm, bm⟩ D))
  have CA := Lib.hid (fun (w : World) (X : List Ent) (h : Own W w (X ++ (box t (.cells #[.slice (some q) D.I.length c, .pointer (some ⟨k, 0, none⟩)] 96) :: row 82 4 (.slice (some q) D.I.length c) (D.I.map itemC) :: bkE k u pm bm D.P :: M))) => (Own.coAt h (List.mem_append_right _ (.tail _ (.tail _ (.tail _ (hm _ (.head _)))))) (List.mem_append_right _ (.tail _ (.tail _ (.tail _ (hm _ (.tail _ (.head _))))))) (List.mem_append_right _ (.tail _ (.tail _ (.tail _ (hm _ (.tail _ (.tail _ (.head _)))))))) : CoAt w a S i A))
  have RW := fun (w' : World) (h1 : Own W w' (box t (.cells #[.slice (some q) D.I.length c, .pointer (some ⟨k, 0, none⟩)] 96) :: row 82 4 (.slice (some q) D.I.length c) (D.I.map itemC) :: bkE k u pm bm D.P :: M)) => h1.rowAt (.tail _ _ _ (.head _)) (itemC_len D.I) HG
  have hg := leftF_in D.I D.I[j].o writS (hB.bal_in 1 D.I[j].o)
  have PO := fun p (hp : WfP p) (w : World) (L : List Ent) (L' : Value → List Ent) (h : Own W w L) hat => bkPost_any (W := W) (w := w) (L := L) (L' := L') (b := k) (v := u) (pm := pm) (bm := bm) (l := D.P) p h hat hBk hp (by omega)
  have hpn := fun p => postL_no (l := D.P) (p := p)
  have LW := fun (w : World) (o : Int) (ho : inI o = true) (h : DkAt w ⟨t, .slice (some q) D.I.length c, k, u, pm, bm⟩ D) (hc : CoAt w a S i A) => dkLeftWrit_any h hc hI hB ho
  have LW2 := LW
  clear LW
  rw [hS2] at hYe
  clear PD hi hn hS2 hapx hat hz hm hI hBk hB hs1
  have hwp := wPst_eq n
  generalize apprE S D b n = ex at *
  generalize apprD S D b n = DX at *
  generalize hzz : D.I[j] = z at *
  obtain ⟨zb, zo, za, zs⟩ := z
  have LW := Lib.hid (fun (w : World) => LW2 w zo hzo)
  have WI := fun w => within_any za (leftF D.I (bal S.P 1 zo) zo writS).1 w
  clear LW2
  simp only at hE hg hza hzo LW WI hYe
  generalize leftF D.I (bal S.P 1 zo) zo writS = g at *
  obtain ⟨g1, g2⟩ := g
  simp only at LW WI hE
  unfold itemC at RW
  simp only at RW
  have HE := Lib.hid hE
  have HN := Lib.hid hNo
  have HY := Lib.hid hYe
  have HS := Lib.hid hset
  have HGG := Lib.hid HG
  have HP := Lib.hid hwp
  have HK := Lib.hid hwk
  replace RW := Lib.hid RW
  replace PO := Lib.hid PO
  replace hpn := Lib.hid hpn
  replace hzz := Lib.hid hzz
  clear hE hNo hYe hset HG hwp hwk
  have hinl : (j : Int) ≤ 1000 := by omega
  by_cases hby : zb = b
  · have hD : (zb == b) = true := by simpa using hby
    rw [if_pos hby] at HE
    obtain rfl := HE.out
    obtain rfl := HN.out (by decide)
    clear HE HN HY HS HGG HP HK PO hby WI
    go_enter Tryz.func47, Tryz.ntmps47
    go_wp2_with (first | (((with_reducible apply wpList_loadOne HO); exact rfl; exact rfl; (repeat (with_reducible (exact At.head _))); exact rfl; infer_instance; exact rfl; (simp only [Act.put, zA, zB, zC]))) | ((with_reducible apply wpList_storeAll HO); exact rfl; exact rfl; exact rfl; (repeat (with_reducible (exact At.head _))); infer_instance; exact rfl; exact rfl; exact rfl; exact rfl; clear HO; intro w HO; (simp only [Act.put])) | (((with_reducible apply wpList_allocAgg _ HO rfl); exact rfl; infer_instance; exact rfl; clear HO; intro b10 w HO; (simp only [Act.put, zA, zB, zC]))) | ((with_reducible apply wpList_loadAt HO); exact rfl; exact rfl; exact (fun w' h1 => RW.out w' h1); infer_instance; exact rfl; exact rfl; (simp only [Act.put, zA, zB, zC])) | (go_at_call 107; go_must ((with_reducible refine (PD'.out _ HO).mono ?_); rintro e w ⟨rfl, hb⟩; replace HO := HO.call hb; clear hb)) | (go_at_call 102; go_must ((with_reducible refine (LW.out _ (DA.out _ [_] HO) (CA.out _ [_] HO)).mono ?_); rintro e w ⟨rfl, hb⟩; replace HO := HO.call hb; clear hb)))
    go_ret
    exact ⟨rfl, _, HO.tail⟩
  rw [if_neg hby] at HE
  have hD : (zb == b) = false := by simpa using hby
  cases g2
  · rw [if_neg (by simp)] at HE
    obtain rfl := HE.out
    obtain rfl := HN.out (by decide)
    clear HE HN HY HS HGG HP HK PO hby WI
    go_enter Tryz.func47, Tryz.ntmps47
    go_wp2_with (first | go_big_skip | (((with_reducible apply wpList_loadOne HO); exact rfl; exact rfl; (repeat (with_reducible (exact At.head _))); exact rfl; infer_instance; exact rfl; (simp only [Act.put, zA, zB, zC]))) | ((with_reducible apply wpList_storeAll HO); exact rfl; exact rfl; exact rfl; (repeat (with_reducible (exact At.head _))); infer_instance; exact rfl; exact rfl; exact rfl; exact rfl; clear HO; intro w HO; (simp only [Act.put])) | (((with_reducible apply wpList_allocAgg _ HO rfl); exact rfl; infer_instance; exact rfl; clear HO; intro b10 w HO; (simp only [Act.put, zA, zB, zC]))) | ((with_reducible apply wpList_loadAt HO); exact rfl; exact rfl; exact (fun w' h1 => RW.out w' h1); infer_instance; exact rfl; exact rfl; (simp only [Act.put, zA, zB, zC])) | (go_at_call 107; go_must ((with_reducible refine (PD'.out _ HO).mono ?_); rintro e w ⟨rfl, hb⟩; replace HO := HO.call hb; clear hb)) | (go_at_call 102; go_must ((with_reducible refine (LW.out _ (DA.out _ [_] HO) (CA.out _ [_] HO)).mono ?_); rintro e w ⟨rfl, hb⟩; replace HO := HO.call hb; clear hb)))
    go_ret
    exact ⟨rfl, _, HO.tail⟩
  cases hw : withinB za g1
  · rw [if_neg (by rw [hw]; simp)] at HE
    rw [hw] at WI
    obtain rfl := HE.out
    obtain rfl := HN.out (by decide)
    clear HE HN HY HS HGG HP HK PO hby hw
    go_enter Tryz.func47, Tryz.ntmps47
    go_wp2_with (first | (((with_reducible apply wpList_loadOne HO); exact rfl; exact rfl; (repeat (with_reducible (exact At.head _))); exact rfl; infer_instance; exact rfl; (simp only [Act.put, zA, zB, zC]))) | ((with_reducible apply wpList_storeAll HO); exact rfl; exact rfl; exact rfl; (repeat (with_reducible (exact At.head _))); infer_instance; exact rfl; exact rfl; exact rfl; exact rfl; clear HO; intro w HO; (simp only [Act.put])) | (((with_reducible apply wpList_allocAgg _ HO rfl); exact rfl; infer_instance; exact rfl; clear HO; intro b10 w HO; (simp only [Act.put, zA, zB, zC]))) | ((with_reducible apply wpList_loadAt HO); exact rfl; exact rfl; exact (fun w' h1 => RW.out w' h1); infer_instance; exact rfl; exact rfl; (simp only [Act.put, zA, zB, zC])) | (go_at_call 107; go_must ((with_reducible refine (PD'.out _ HO).mono ?_); rintro e w ⟨rfl, hb⟩; replace HO := HO.call hb; clear hb)) | (go_at_call 102; go_must ((with_reducible refine (LW.out _ (DA.out _ [_] HO) (CA.out _ [_] HO)).mono ?_); rintro e w ⟨rfl, hb⟩; replace HO := HO.call hb; clear hb)) | (go_at_call 106; go_must ((with_reducible refine (WI _).mono ?_); rintro e w ⟨rfl, hb⟩; replace HO := HO.call hb; clear hb)))
    go_ret
    exact ⟨rfl, _, HO.tail⟩
  rw [if_pos ⟨rfl, hw⟩] at HE
  rw [hw] at WI
  clear hw hby
  obtain ⟨wid, hwid⟩ : ∃ x, x = wK n := ⟨_, rfl⟩
  rw [← hwid] at HK HP
  generalize (⟨(Lib.itoa n).toArray⟩ : ByteArray) = x1 at *
  have hws : wid.size ≤ maxLen := by
    rw [HK.out, ByteArray.size_append]
    show 1 + x1.size ≤ maxLen
    unfold maxLen
    omega
  have a1 : ¬ (9223372036854775807 < (⟨#[119]⟩ : ByteArray).size + x1.size) := by show ¬ (9223372036854775807 < 1 + x1.size); omega
  have a1' : ¬ (9223372036854775807 < 1 + x1.size) := by omega
  replace hwid := Lib.hid hwid
  go_enter Tryz.func47, Tryz.ntmps47
  go_upto_region 10 with (first | (((with_reducible apply wpList_loadOne HO); exact rfl; exact rfl; (repeat (with_reducible (exact At.head _))); exact rfl; infer_instance; exact rfl; (simp only [Act.put, zA, zB, zC]))) | ((with_reducible apply wpList_storeAll HO); exact rfl; exact rfl; exact rfl; (repeat (with_reducible (exact At.head _))); infer_instance; exact rfl; exact rfl; exact rfl; exact rfl; clear HO; intro w HO; (simp only [Act.put])) | (((with_reducible apply wpList_allocAgg _ HO rfl); exact rfl; infer_instance; exact rfl; clear HO; intro b10 w HO; (simp only [Act.put, zA, zB, zC]))) | ((with_reducible apply wpList_loadAt HO); exact rfl; exact rfl; exact (fun w' h1 => RW.out w' h1); infer_instance; exact rfl; exact rfl; (simp only [Act.put, zA, zB, zC])) | (go_at_call 107; go_must ((with_reducible refine (PD'.out _ HO).mono ?_); rintro e w ⟨rfl, hb⟩; replace HO := HO.call hb; clear hb)) | (go_at_call 102; go_must ((with_reducible refine (LW.out _ (DA.out _ [_] HO) (CA.out _ [_] HO)).mono ?_); rintro e w ⟨rfl, hb⟩; replace HO := HO.call hb; clear hb)) | (go_at_call 106; go_must ((with_reducible refine (WI _).mono ?_); rintro e w ⟨rfl, hb⟩; replace HO := HO.call hb; clear hb)))
  clear PD' DA CA LW WI RW
  go_cut [13] (fun x wx => ∃ b13, x = .pointer (some ⟨b13, 0, none⟩) ∧ Own W wx (box b13 (.cells #[.string wid, .int .i64 zo, .int .i64 4, .int .i64 1, .int .i64 za] 187) :: box b10 (.cells #[.string ⟨zb.toArray⟩, .int .i64 zo, .int .i64 za, .int .i64 zs] 82) :: box t (.cells #[.slice (some q) D.I.length c, .pointer (some ⟨k, 0, none⟩)] 96) :: row 82 4 (.slice (some q) D.I.length c) (D.I.map itemC) :: bkE k u pm bm D.P :: M))
  case first =>
    refine region_tree ([box b10 (.cells #[.string ⟨zb.toArray⟩, .int .i64 zo, .int .i64 za, .int .i64 zs] 82)]) [(0, true), (3, true), (4, true), (5, true), (6, true), (1, false), (2, true), (7, true), (8, false), (9, false)] ((.fork [(0, true), (3, true), (4, true), (5, true), (6, true)] 1 8 (.fin [(2, true), (7, true), (8, false), (9, false)]) (.fin [(1, false), (2, true), (7, true), (9, false)]))) HO (by with_reducible (repeat (first | exact List.nil_sublist _ | apply List.Sublist.cons_cons))) (by kernel_rfl) (by kernel_rfl) ?_
    clear HO
    intro w HO
    refine wpS_fork ?_
    repeat (first | ((with_reducible apply wpSched_loadOne); exact rfl; exact rfl; exact rfl; (repeat (with_reducible (exact At.head _))); exact rfl; infer_instance; exact rfl; (simp only [Act.put, zA, zB, zC])) | ((with_reducible apply wpSched_pure); exact rfl; exact rfl; (intro w'; go_simp; try with_reducible rfl); (simp only [Act.put, zA, zB, zC])))
    refine fork_end rfl rfl ?_ ?_
    · go_wp2_with ((go_at_call 109; go_must ((with_reducible refine (ITO _ HO.grown).mono ?_); rintro e w ⟨rfl, hb⟩; replace HO := HO.call hb; clear hb)))
      refine thenQ_keep (HO.held (by with_reducible (repeat (first | exact List.nil_sublist _ | apply List.Sublist.cons_cons)))) ?_
      refine wpS_fin ?_
      repeat (((with_reducible apply wpSched_pure); exact rfl; exact rfl; (intro w'; go_simp; try with_reducible rfl); (simp only [Act.put, zA, zB, zC])))
      ((with_reducible apply wpSched_loud); exact rfl; (((with_reducible apply wpList_allocAgg _ HO rfl); exact rfl; infer_instance; exact rfl; clear HO; intro b13 w HO; (simp only [Act.put, zA, zB, zC]))))
      refine wpList_nil (thenQ_keep (HO.held (by with_reducible (repeat (first | exact List.nil_sublist _ | apply List.Sublist.cons_cons | apply List.Sublist.cons)))) ?_)
      ((with_reducible apply wpSched_loud); exact rfl; ((with_reducible apply wpList_storeAll HO); exact rfl; exact rfl; exact rfl; (repeat (with_reducible (exact At.head _))); infer_instance; exact rfl; exact rfl; exact rfl; exact rfl; clear HO; intro w HO; (simp only [Act.put])))
      refine wpList_nil (thenQ_keep (HO.held (by with_reducible (repeat (first | exact List.nil_sublist _ | apply List.Sublist.cons_cons | apply List.Sublist.cons)))) ?_)
      repeat ((with_reducible apply wpSched_pure); exact rfl; exact rfl; (intro w'; go_simp; try with_reducible rfl); (simp only [Act.put, zA, zB, zC]))
      refine wpSched_end ?_
      go_wp2_with fail
      go_meet
      exact ⟨b13, rfl, by rw [HK.out]; exact HO⟩
    · (((with_reducible apply wpList_allocAgg _ HO rfl); exact rfl; infer_instance; exact rfl; clear HO; intro b13 w HO; (simp only [Act.put, zA, zB, zC])))
      refine wpList_nil (thenQ_keep (HO.held (by with_reducible (repeat (first | exact List.nil_sublist _ | apply List.Sublist.cons_cons | apply List.Sublist.cons)))) ?_)
      refine wpS_fin ?_
      ((with_reducible apply wpSched_loud); exact rfl; go_wp2_with ((go_at_call 109; go_must ((with_reducible refine (ITO _ HO.grown).mono ?_); rintro e w ⟨rfl, hb⟩; replace HO := HO.call hb; clear hb))))
      refine thenQ_keep (HO.held (by with_reducible (repeat (first | exact List.nil_sublist _ | apply List.Sublist.cons_cons | apply List.Sublist.cons)))) ?_
      repeat (((with_reducible apply wpSched_pure); exact rfl; exact rfl; (intro w'; go_simp; try with_reducible rfl); (simp only [Act.put, zA, zB, zC])))
      ((with_reducible apply wpSched_loud); exact rfl; ((with_reducible apply wpList_storeAll HO); exact rfl; exact rfl; exact rfl; (repeat (with_reducible (exact At.head _))); infer_instance; exact rfl; exact rfl; exact rfl; exact rfl; clear HO; intro w HO; (simp only [Act.put])))
      refine wpList_nil (thenQ_keep (HO.held (by with_reducible (repeat (first | exact List.nil_sublist _ | apply List.Sublist.cons_cons | apply List.Sublist.cons)))) ?_)
      repeat ((with_reducible apply wpSched_pure); exact rfl; exact rfl; (intro w'; go_simp; try with_reducible rfl); (simp only [Act.put, zA, zB, zC]))
      refine wpSched_end ?_
      go_wp2_with fail
      go_meet
      exact ⟨b13, rfl, by rw [HK.out]; exact HO⟩
  clear HO HK a1 a1' ITO hix
  obtain ⟨b13, rfl, HO⟩ := hcut
  by_cases hneg : za < 0
  · have NG := fun w => mNeg_any hza w
    by_cases hmn : za = -9223372036854775808
    · rw [if_pos hmn] at HE
      obtain rfl := HE.out
      obtain rfl := HN.out (by decide)
      rw [subI_no (by rw [hmn]; decide)] at NG
      clear HE HN HY HS HGG HP PO hmn
      go_wp2_with (first | (((with_reducible apply wpList_loadOne HO); exact rfl; exact rfl; (repeat (with_reducible (first | exact At.head _ | apply At.tail))); exact rfl; infer_instance; exact rfl; (simp only [Act.put, zA, zB, zC]))) | (go_at_call 110; go_must ((with_reducible refine (NG _).mono ?_); rintro e w ⟨rfl, hb⟩; replace HO := HO.call hb; clear hb)))
      go_ret
      exact ⟨rfl, _, HO.tail.tail⟩
    rw [if_neg hmn] at HE
    have hn1 : subI 0 za = (-za, true) := by rw [subI_yes (inI_iff.2 (by have := inI_iff.1 hza; omega))]; rw [Int.zero_sub]
    rw [hn1] at NG
    have hbig : -9223372036854775808 < za := by have := inI_iff.1 hza; omega
    clear hn1 hmn
    have hsg : za < 0 := hneg
    have hp := HP.out zb zo za zs
    rw [if_pos hsg] at hp
    rw [hp] at HE HY
    clear HP hp
    have PO1 := Lib.hid (PO.out ⟨wid, zo, 1, 4, (-za)⟩ ⟨hzo, rfl, rfl, (show inI (-za) = true from inI_iff.2 (by have := inI_iff.1 hza; omega)), hws⟩)
    have hpn1 := Lib.hid (hpn.out ⟨wid, zo, 1, 4, (-za)⟩)
    simp only [pstV, pstC] at PO1
    clear PO hpn
    generalize postE D.P ⟨wid, zo, 1, 4, (-za)⟩ = pe at *
    generalize postL D.P ⟨wid, zo, 1, 4, (-za)⟩ = pl at *
    obtain rfl := HE.out
    go_upto_region 16 with (first | (((with_reducible apply wpList_loadOne HO); exact rfl; exact rfl; (repeat (with_reducible (first | exact At.head _ | apply At.tail))); exact rfl; infer_instance; exact rfl; (simp only [Act.put, zA, zB, zC]))) | ((with_reducible apply wpList_storeOne HO); exact rfl; exact rfl; ((simp [Act.eval]; rfl)); exact rfl; (repeat (with_reducible (exact At.head _))); infer_instance; exact (by simp); (simp only [List.set_cons_succ, List.set_cons_zero]; rfl); exact rfl; clear HO; intro w HO; (simp only [Act.put])) | (go_at_call 110; go_must ((with_reducible refine (NG _).mono ?_); rintro e w ⟨rfl, hb⟩; replace HO := HO.call hb; clear hb)))
    refine region_sched2 ([box b13 (.cells #[.string wid, .int .i64 zo, .int .i64 1, .int .i64 4, .int .i64 (-za)] 187), box t (.cells #[.slice (some q) D.I.length c, .pointer (some ⟨k, 0, none⟩)] 96)]) [(0, true), (1, true), (2, true), (3, true), (4, true), (5, false), (6, true)] HO (by with_reducible (repeat (first | exact List.nil_sublist _ | apply List.Sublist.cons_cons | apply List.Sublist.cons))) (by kernel_rfl) (by kernel_rfl) ?_
    clear HO
    intro w HO
    repeat (first | ((with_reducible apply wpSched_loadOne); exact rfl; exact rfl; exact rfl; (repeat (with_reducible (first | exact At.head _ | apply At.tail))); exact rfl; infer_instance; exact rfl; (simp only [Act.put, zA, zB, zC])) | ((with_reducible apply wpSched_loadAll); exact rfl; exact rfl; exact rfl; (repeat (with_reducible (exact At.head _))); infer_instance; exact rfl; exact rfl; (simp only [Act.put, zA, zB, zC])) | ((with_reducible apply wpSched_pure); exact rfl; exact rfl; (intro w'; go_simp; try with_reducible rfl); (simp only [Act.put, zA, zB, zC])))
    ((with_reducible apply wpSched_loud); exact rfl; go_wp2_with ((go_at_call 111; go_must ((have h9 := PO1.out _ _ _ HO (by intro v9; (repeat (with_reducible (first | exact At.head _ | apply At.tail))))); (with_reducible refine h9.mono ?_); clear h9 HO; rintro e w ⟨rfl, u9, HO⟩))))
    refine thenQ_free (by kernel_rfl) ?_
    repeat ((with_reducible apply wpSched_pure); exact rfl; exact rfl; (intro w'; go_simp; try with_reducible rfl); (simp only [Act.put, zA, zB, zC]))
    refine wpSched_end ?_
    by_cases hpe : ex = 0
    · subst hpe
      obtain rfl := HY.out rfl
      clear HN HY hpn1
      go_wp2_with (first | (((with_reducible apply wpList_loadOne HO); exact rfl; exact rfl; (repeat (with_reducible (first | exact At.head _ | apply At.tail))); exact rfl; infer_instance; exact rfl; (simp only [Act.put, zA, zB, zC]))) | ((with_reducible apply wpList_storeRow1 (q := q) (i := j) (k := 4) (f := 3) (n := D.I.length) (c := c) HO); exact rfl; exact rfl; ((simp [Act.eval]; rfl)); exact rfl; exact HGG.out; decide; (repeat (with_reducible (first | exact At.head _ | apply At.tail))); exact itemC_len _; infer_instance; exact rfl; clear HO; intro w HO; (simp only [Act.put])))
      go_ret
      refine ⟨rfl, u9, ?_⟩
      show Own W w (box t (.cells #[.slice (some q) D.I.length c, .pointer (some ⟨k, 0, none⟩)] 96) :: row 82 4 (.slice (some q) D.I.length c) ((D.I.set j { b := zb, o := zo, a := za, s := 2 }).map itemC) :: bkE k u9 pm bm pl :: M)
      rw [HS.out]
      exact HO.tail.tail
    · have hd : (ex != 0) = true := by rw [bne_iff_ne]; exact hpe
      obtain rfl := HN.out hpe
      obtain rfl := hpn1.out hpe
      clear HN HY hpn1 hpe
      go_wp2_with (fail)
      go_ret
      exact ⟨rfl, u9, HO.tail.tail⟩
  · have NG : True := trivial
    rw [if_neg (by omega)] at HE
    have hsg : ¬ za < 0 := hneg
    have hp := HP.out zb zo za zs
    rw [if_neg hsg] at hp
    rw [hp] at HE HY
    clear HP hp
    have PO1 := Lib.hid (PO.out ⟨wid, zo, 4, 1, za⟩ ⟨hzo, rfl, rfl, hza, hws⟩)
    have hpn1 := Lib.hid (hpn.out ⟨wid, zo, 4, 1, za⟩)
    simp only [pstV, pstC] at PO1
    clear PO hpn
    generalize postE D.P ⟨wid, zo, 4, 1, za⟩ = pe at *
    generalize postL D.P ⟨wid, zo, 4, 1, za⟩ = pl at *
    obtain rfl := HE.out
    go_upto_region 16 with ((((with_reducible apply wpList_loadOne HO); exact rfl; exact rfl; (repeat (with_reducible (first | exact At.head _ | apply At.tail))); exact rfl; infer_instance; exact rfl; (simp only [Act.put, zA, zB, zC]))))
    refine region_sched2 ([box b13 (.cells #[.string wid, .int .i64 zo, .int .i64 4, .int .i64 1, .int .i64 za] 187), box t (.cells #[.slice (some q) D.I.length c, .pointer (some ⟨k, 0, none⟩)] 96)]) [(0, true), (1, true), (2, true), (3, true), (4, true), (5, false), (6, true)] HO (by with_reducible (repeat (first | exact List.nil_sublist _ | apply List.Sublist.cons_cons | apply List.Sublist.cons))) (by kernel_rfl) (by kernel_rfl) ?_
    clear HO
    intro w HO
    repeat (first | ((with_reducible apply wpSched_loadOne); exact rfl; exact rfl; exact rfl; (repeat (with_reducible (first | exact At.head _ | apply At.tail))); exact rfl; infer_instance; exact rfl; (simp only [Act.put, zA, zB, zC])) | ((with_reducible apply wpSched_loadAll); exact rfl; exact rfl; exact rfl; (repeat (with_reducible (exact At.head _))); infer_instance; exact rfl; exact rfl; (simp only [Act.put, zA, zB, zC])) | ((with_reducible apply wpSched_pure); exact rfl; exact rfl; (intro w'; go_simp; try with_reducible rfl); (simp only [Act.put, zA, zB, zC])))
    ((with_reducible apply wpSched_loud); exact rfl; go_wp2_with ((go_at_call 111; go_must ((have h9 := PO1.out _ _ _ HO (by intro v9; (repeat (with_reducible (first | exact At.head _ | apply At.tail))))); (with_reducible refine h9.mono ?_); clear h9 HO; rintro e w ⟨rfl, u9, HO⟩))))
    refine thenQ_free (by kernel_rfl) ?_
    repeat ((with_reducible apply wpSched_pure); exact rfl; exact rfl; (intro w'; go_simp; try with_reducible rfl); (simp only [Act.put, zA, zB, zC]))
    refine wpSched_end ?_
    by_cases hpe : ex = 0
    · subst hpe
      obtain rfl := HY.out rfl
      clear HN HY hpn1
      go_wp2_with (first | (((with_reducible apply wpList_loadOne HO); exact rfl; exact rfl; (repeat (with_reducible (first | exact At.head _ | apply At.tail))); exact rfl; infer_instance; exact rfl; (simp only [Act.put, zA, zB, zC]))) | ((with_reducible apply wpList_storeRow1 (q := q) (i := j) (k := 4) (f := 3) (n := D.I.length) (c := c) HO); exact rfl; exact rfl; ((simp [Act.eval]; rfl)); exact rfl; exact HGG.out; decide; (repeat (with_reducible (first | exact At.head _ | apply At.tail))); exact itemC_len _; infer_instance; exact rfl; clear HO; intro w HO; (simp only [Act.put])))
      go_ret
      refine ⟨rfl, u9, ?_⟩
      show Own W w (box t (.cells #[.slice (some q) D.I.length c, .pointer (some ⟨k, 0, none⟩)] 96) :: row 82 4 (.slice (some q) D.I.length c) ((D.I.set j { b := zb, o := zo, a := za, s := 2 }).map itemC) :: bkE k u9 pm bm pl :: M)
      rw [HS.out]
      exact HO.tail.tail
    · have hd : (ex != 0) = true := by rw [bne_iff_ne]; exact hpe
      obtain rfl := HN.out hpe
      obtain rfl := hpn1.out hpe
      clear HN HY hpn1 hpe
      go_wp2_with (fail)
      go_ret
      exact ⟨rfl, u9, HO.tail.tail⟩
end Go.Proofs.YtibabfedpdoofaaGreatDoor

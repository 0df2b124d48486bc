/-
  A core's Apply, by walking the program's text; conditions: the core is one that entries come to, the rows lie in memory, int64 numbers.
  What Apply keeps; plain.
  Postings told and books copied, by walking the program's and the library's text; conditions: less than 100000 postings.
  Since when orders have suspense, by walking the program's text; conditions: int64 numbers.
  How much is old, by walking the program's text; conditions: int64 numbers.
  What postings are called; plain.
  The chapter's example of an aging, by walking the law's text; conditions: the laid tables.
  The chapter's example of an aging: the law's own helper, by walking its text; conditions: the laid tables.
  AgingNone, by walking the law's text; conditions: the laid tables, int64 numbers.
  From a walk of a law to its row: what every law shares, over any program; conditions: none.
  sum ffb3a9b65cc99da2683c901914f2bc0259a8b62c
-/
import Derived.Lib.SliceRun
import Derived.BigGuardPart
import Derived.OwnWalk
import Derived.Lib.ItoaMem
import Derived.Test.YtibabfedpdoofaaDoorRows
import Derived.ProofKit
import Derived.OpenShut
import Derived.Deep.DeepHandedRow
import Derived.Lib.LaidTab
import Derived.Test.YtibabfedpdoofaaDoorPt1
import Derived.Test.YtibabfedpdoofaaDoorPt4
import Derived.Test.YtibabfedpdoofaaDoorPt11
namespace Go.Proofs.YtibabfedpdoofaaDoor
open Go.RowKit Go.Own Go.Maps

def EntS.ord (x : EntS) : OrdS := ⟨x.id, x.ref, x.sku, x.qty, x.amt⟩
def applyE (S : CoS) (A : InS) (x : EntS) : Int := if x.k = 1 then placeE S.L x.ord else if x.k = 2 then stopE S.L x.o else if x.k = 3 then replyE S.L x.o x.d x.c else if x.k = 4 then accE A x.p x.q x.rs else 2
def applyS (S : CoS) (A : InS) (x : EntS) : CoS := if x.k = 1 then { S with L := placeL S.L x.ord } else if x.k = 2 then { S with L := stopL S.L x.o } else if x.k = 3 then replyS S x.o x.d x.c else
  if x.k = 4 then (if accE A x.p x.q x.rs = 0 then { S with P := stmtP S.P (byI A (A.put x.p x.q x.rs)) x.q 60 } else S) else S
def applyI (A : InS) (x : EntS) : InS := if x.k = 4 ∧ accE A x.p x.q x.rs = 0 then A.put x.p x.q x.rs else A
/-- Entries as they come. -/
structure EntW (W : World) (M : List Ent) (x : EntS) (v : Value) : Prop where
  rows : RowsIn W M v x.rs
  ref : x.ref.length ≤ maxLen
  sku : x.sku.length ≤ maxLen
  o : inI x.o = true

set_option maxHeartbeats 16000000 in
set_option maxRecDepth 100000 in
theorem coApply_any {W w : World} {M : List Ent} {a : CoA} {S : CoS} {i : InA} {A : InS} {v : Value} (x : EntS) (HO : Own W w (coPs a S i A ++ (inPs i A ++ M))) (hx : EntW W M x v) (hA : InOk A) (hok : CoOk S) (hlen : S.P.length ≤ 99000) (hL : LaidE W) :
    Calls Tryd.prog 10 #[.pointer (some ⟨a.c, 0, none⟩), .agg #[.int .i64 (x).k, .int .i64 (x).id, .string ⟨(x).ref.toArray⟩, .string ⟨(x).sku.toArray⟩, .int .i64 (x).qty, .int .i64 (x).amt, .int .i64 (x).o, .int .i64 (x).d, .int .i64 (x).c, .int .i64 (x).p, .int .i64 (x).q, v]] w fun e w' => e = .returned (.int .i64 (applyE S A x)) ∧ ∃ u' v' i', (x.k ≠ 4 → i' = i) ∧ Own W w' (coPs { a with u := u', v := v' } (applyS S A x) i' (applyI A x) ++ (inPs i' (applyI A x) ++ M)) := by
  have hpm := fun (Z x y z : Ent) (N : List Ent) => (List.perm_append_comm (l₁ := [Z]) (l₂ := [x, y, z])).append_right N
  have NN := fun (Z : Ent) (w : World) (h : Own W w (Z :: (coPs a S i A ++ (inPs i A ++ M)))) => coNone_any (Own.coAt h (a := a) (S := S) (i := i) (A := A) (by repeat (first | exact List.mem_cons_self | apply List.mem_cons_of_mem)) (by repeat (first | exact List.mem_cons_self | apply List.mem_cons_of_mem)) (by repeat (first | exact List.mem_cons_self | apply List.mem_cons_of_mem)))
  have PL : ∀ (Z : Ent) (w : World), Own W w (Z :: (coPs a S i A ++ (inPs i A ++ M))) → Calls Tryd.prog 29 #[.pointer (some ⟨a.c, 0, none⟩), .agg #[.int .i64 x.id, .string ⟨x.ref.toArray⟩, .string ⟨x.sku.toArray⟩, .int .i64 x.qty, .int .i64 x.amt]] w fun e w' => e = .returned (.int .i64 (placeE S.L x.ord)) ∧ ∃ v', Own W w' (coPs { a with v := v' } { S with L := placeL S.L x.ord } i A ++ (Z :: (inPs i A ++ M))) :=
    fun Z w h => coPlace_any x.ord (M := Z :: (inPs i A ++ M)) (h.perm (hpm _ _ _ _ _)) hok.len hx.ref hx.sku
  have ST := fun (Z : Ent) (w : World) (h : Own W w (Z :: (coPs a S i A ++ (inPs i A ++ M)))) => coStop_any x.o (M := Z :: (inPs i A ++ M)) (h.perm (hpm _ _ _ _ _)) hx.o
  have RP := fun (Z : Ent) (w : World) (h : Own W w (Z :: (coPs a S i A ++ (inPs i A ++ M)))) => coReply_any x.o x.d x.c (M := Z :: (inPs i A ++ M)) (h.perm (hpm _ _ _ _ _)) hx.o hok (by omega) hL
  have h7 := fun (Z a b c d e f g : Ent) (N : List Ent) => (List.perm_append_comm (l₁ := [Z]) (l₂ := [a, b, c, d, e, f, g])).append_right N
  have SN := fun (hn : accE A x.p x.q x.rs ≠ 0) (Z : Ent) (w : World) (h : Own W w (Z :: (coPs a S i A ++ (inPs i A ++ M)))) => coStmt_no x.p x.q x.rs (M := Z :: M) (h.perm (h7 _ _ _ _ _ _ _ _ _)) (hx.rows.more Z) hA hL hn
  have SY := fun (hn : accE A x.p x.q x.rs = 0) (Z : Ent) (w : World) (h : Own W w (Z :: (coPs a S i A ++ (inPs i A ++ M)))) => coStmt_yes x.p x.q x.rs (M := Z :: M) (h.perm (h7 _ _ _ _ _ _ _ _ _)) (hx.rows.more Z) hA hok hlen hL hn
  obtain ⟨vp, vc, rfl, -⟩ := (hx.rows _ _ HO (fun e he => List.mem_append_right _ (List.mem_append_right _ he))).slice
  clear hpm h7
  rcases five x.k with hk | hk | hk | hk | ⟨h1, h2, h3, h4⟩
  · rw [show applyE S A x = placeE S.L x.ord by unfold applyE; rw [if_pos hk]]
    rw [show applyS S A x = { S with L := placeL S.L x.ord } by unfold applyS; rw [if_pos hk]]
    rw [show applyI A x = A by unfold applyI; rw [if_neg (by rw [hk]; simp)]]
    clear ST RP SN SY
    go_enter Tryd.func10, Tryd.ntmps10
    go_wp2_with (first | go_big_skip | (first | go_big_skip | ((with_reducible apply wpList_loadAll HO); exact rfl; exact rfl; (repeat (with_reducible (first | exact At.head _ | apply At.tail))); infer_instance; exact rfl; exact rfl; (simp only [Act.put, List.setIfInBounds_toArray, List.set_cons_succ, List.set_cons_zero])) | ((with_reducible apply wpList_loadOne HO); exact rfl; exact rfl; (repeat (with_reducible (first | exact At.head _ | apply At.tail))); exact rfl; infer_instance; exact rfl; (simp only [Act.put, List.setIfInBounds_toArray, List.set_cons_succ, List.set_cons_zero]))) | ((with_reducible apply wpList_storeAll HO); exact rfl; exact rfl; exact rfl; (repeat (with_reducible (first | exact At.head _ | apply At.tail))); infer_instance; exact rfl; exact rfl; exact rfl; exact rfl; clear HO; intro w HO; (simp only [Act.put])) | (first | ((with_reducible apply wpList_boxAgg _ HO rfl); exact rfl; exact rfl; exact rfl; clear HO; intro b1 w HO; (simp only [Act.put, List.setIfInBounds_toArray, List.set_cons_succ, List.set_cons_zero])) | ((with_reducible apply wpList_allocAgg _ HO rfl); exact rfl; infer_instance; exact rfl; clear HO; intro b1 w HO; (simp only [Act.put, List.setIfInBounds_toArray, List.set_cons_succ, List.set_cons_zero]))) | ((with_reducible apply wpList_loadPart HO); exact rfl; exact rfl; (repeat (with_reducible (first | exact At.head _ | apply At.tail))); infer_instance; exact (Nat.le_of_ble_eq_true rfl); (simp only [List.drop_succ_cons, List.drop_zero, List.take_succ_cons, List.take_zero]; rfl); exact rfl; (simp only [Act.put, List.setIfInBounds_toArray, List.set_cons_succ, List.set_cons_zero])) | (go_at_call 28; go_must ((with_reducible refine (NN _ _ HO).mono ?_); rintro e w ⟨rfl, hb⟩; replace HO := HO.call hb; clear hb)) | (go_at_call 29; go_must ((with_reducible refine (PL _ _ HO).mono ?_); clear HO; rintro e w ⟨rfl, v', HO⟩)))
    go_ret
    exact ⟨rfl, a.u, v', i, fun _ => rfl, HO.sub (by exact .cons_cons _ (.cons_cons _ (.cons_cons _ (.cons _ (List.Sublist.refl _)))))⟩
  · rw [show applyE S A x = stopE S.L x.o by unfold applyE; rw [if_neg (by omega), if_pos hk]]
    rw [show applyS S A x = { S with L := stopL S.L x.o } by unfold applyS; rw [if_neg (by omega), if_pos hk]]
    rw [show applyI A x = A by unfold applyI; rw [if_neg (by rw [hk]; simp)]]
    clear PL RP SN SY
    go_enter Tryd.func10, Tryd.ntmps10
    go_wp2_with (first | go_big_skip | (first | go_big_skip | ((with_reducible apply wpList_loadAll HO); exact rfl; exact rfl; (repeat (with_reducible (first | exact At.head _ | apply At.tail))); infer_instance; exact rfl; exact rfl; (simp only [Act.put, List.setIfInBounds_toArray, List.set_cons_succ, List.set_cons_zero])) | ((with_reducible apply wpList_loadOne HO); exact rfl; exact rfl; (repeat (with_reducible (first | exact At.head _ | apply At.tail))); exact rfl; infer_instance; exact rfl; (simp only [Act.put, List.setIfInBounds_toArray, List.set_cons_succ, List.set_cons_zero]))) | ((with_reducible apply wpList_storeAll HO); exact rfl; exact rfl; exact rfl; (repeat (with_reducible (first | exact At.head _ | apply At.tail))); infer_instance; exact rfl; exact rfl; exact rfl; exact rfl; clear HO; intro w HO; (simp only [Act.put])) | (first | ((with_reducible apply wpList_boxAgg _ HO rfl); exact rfl; exact rfl; exact rfl; clear HO; intro b1 w HO; (simp only [Act.put, List.setIfInBounds_toArray, List.set_cons_succ, List.set_cons_zero])) | ((with_reducible apply wpList_allocAgg _ HO rfl); exact rfl; infer_instance; exact rfl; clear HO; intro b1 w HO; (simp only [Act.put, List.setIfInBounds_toArray, List.set_cons_succ, List.set_cons_zero]))) | ((with_reducible apply wpList_loadPart HO); exact rfl; exact rfl; (repeat (with_reducible (first | exact At.head _ | apply At.tail))); infer_instance; exact (Nat.le_of_ble_eq_true rfl); (simp only [List.drop_succ_cons, List.drop_zero, List.take_succ_cons, List.take_zero]; rfl); exact rfl; (simp only [Act.put, List.setIfInBounds_toArray, List.set_cons_succ, List.set_cons_zero])) | (go_at_call 28; go_must ((with_reducible refine (NN _ _ HO).mono ?_); rintro e w ⟨rfl, hb⟩; replace HO := HO.call hb; clear hb)) | (go_at_call 30; go_must ((with_reducible refine (ST _ _ HO).mono ?_); clear HO; rintro e w ⟨rfl, HO⟩)))
    go_ret
    exact ⟨rfl, a.u, a.v, i, fun _ => rfl, HO.sub (by exact .cons_cons _ (.cons_cons _ (.cons_cons _ (.cons _ (List.Sublist.refl _)))))⟩
  · rw [show applyE S A x = replyE S.L x.o x.d x.c by unfold applyE; rw [if_neg (by omega), if_neg (by omega), if_pos hk]]
    rw [show applyS S A x = replyS S x.o x.d x.c by unfold applyS; rw [if_neg (by omega), if_neg (by omega), if_pos hk]]
    rw [show applyI A x = A by unfold applyI; rw [if_neg (by rw [hk]; simp)]]
    clear PL ST SN SY
    go_enter Tryd.func10, Tryd.ntmps10
    go_wp2_with (first | go_big_skip | (first | go_big_skip | ((with_reducible apply wpList_loadAll HO); exact rfl; exact rfl; (repeat (with_reducible (first | exact At.head _ | apply At.tail))); infer_instance; exact rfl; exact rfl; (simp only [Act.put, List.setIfInBounds_toArray, List.set_cons_succ, List.set_cons_zero])) | ((with_reducible apply wpList_loadOne HO); exact rfl; exact rfl; (repeat (with_reducible (first | exact At.head _ | apply At.tail))); exact rfl; infer_instance; exact rfl; (simp only [Act.put, List.setIfInBounds_toArray, List.set_cons_succ, List.set_cons_zero]))) | ((with_reducible apply wpList_storeAll HO); exact rfl; exact rfl; exact rfl; (repeat (with_reducible (first | exact At.head _ | apply At.tail))); infer_instance; exact rfl; exact rfl; exact rfl; exact rfl; clear HO; intro w HO; (simp only [Act.put])) | (first | ((with_reducible apply wpList_boxAgg _ HO rfl); exact rfl; exact rfl; exact rfl; clear HO; intro b1 w HO; (simp only [Act.put, List.setIfInBounds_toArray, List.set_cons_succ, List.set_cons_zero])) | ((with_reducible apply wpList_allocAgg _ HO rfl); exact rfl; infer_instance; exact rfl; clear HO; intro b1 w HO; (simp only [Act.put, List.setIfInBounds_toArray, List.set_cons_succ, List.set_cons_zero]))) | ((with_reducible apply wpList_loadPart HO); exact rfl; exact rfl; (repeat (with_reducible (first | exact At.head _ | apply At.tail))); infer_instance; exact (Nat.le_of_ble_eq_true rfl); (simp only [List.drop_succ_cons, List.drop_zero, List.take_succ_cons, List.take_zero]; rfl); exact rfl; (simp only [Act.put, List.setIfInBounds_toArray, List.set_cons_succ, List.set_cons_zero])) | (go_at_call 28; go_must ((with_reducible refine (NN _ _ HO).mono ?_); rintro e w ⟨rfl, hb⟩; replace HO := HO.call hb; clear hb)) | (go_at_call 31; go_must ((with_reducible refine (RP _ _ HO).mono ?_); clear HO; rintro e w ⟨rfl, u', HO⟩)))
    go_ret
    exact ⟨rfl, u', a.v, i, fun _ => rfl, HO.sub (by exact .cons_cons _ (.cons_cons _ (.cons_cons _ (.cons _ (List.Sublist.refl _)))))⟩
  · rw [show applyE S A x = accE A x.p x.q x.rs by unfold applyE; rw [if_neg (by omega), if_neg (by omega), if_neg (by omega), if_pos hk]]
    by_cases hn : accE A x.p x.q x.rs = 0
    · rw [show applyS S A x = { S with P := stmtP S.P (byI A (A.put x.p x.q x.rs)) x.q 60 } by unfold applyS; rw [if_neg (by omega), if_neg (by omega), if_neg (by omega), if_pos hk, if_pos hn]]
      rw [show applyI A x = A.put x.p x.q x.rs by unfold applyI; rw [if_pos ⟨hk, hn⟩]]
      have SY := SY hn
      rw [hn]
      clear PL ST SN RP
      go_enter Tryd.func10, Tryd.ntmps10
      go_wp2_with (first | go_big_skip | (first | go_big_skip | ((with_reducible apply wpList_loadAll HO); exact rfl; exact rfl; (repeat (with_reducible (first | exact At.head _ | apply At.tail))); infer_instance; exact rfl; exact rfl; (simp only [Act.put, List.setIfInBounds_toArray, List.set_cons_succ, List.set_cons_zero])) | ((with_reducible apply wpList_loadOne HO); exact rfl; exact rfl; (repeat (with_reducible (first | exact At.head _ | apply At.tail))); exact rfl; infer_instance; exact rfl; (simp only [Act.put, List.setIfInBounds_toArray, List.set_cons_succ, List.set_cons_zero]))) | ((with_reducible apply wpList_storeAll HO); exact rfl; exact rfl; exact rfl; (repeat (with_reducible (first | exact At.head _ | apply At.tail))); infer_instance; exact rfl; exact rfl; exact rfl; exact rfl; clear HO; intro w HO; (simp only [Act.put])) | (first | ((with_reducible apply wpList_boxAgg _ HO rfl); exact rfl; exact rfl; exact rfl; clear HO; intro b1 w HO; (simp only [Act.put, List.setIfInBounds_toArray, List.set_cons_succ, List.set_cons_zero])) | ((with_reducible apply wpList_allocAgg _ HO rfl); exact rfl; infer_instance; exact rfl; clear HO; intro b1 w HO; (simp only [Act.put, List.setIfInBounds_toArray, List.set_cons_succ, List.set_cons_zero]))) | ((with_reducible apply wpList_loadPart HO); exact rfl; exact rfl; (repeat (with_reducible (first | exact At.head _ | apply At.tail))); infer_instance; exact (Nat.le_of_ble_eq_true rfl); (simp only [List.drop_succ_cons, List.drop_zero, List.take_succ_cons, List.take_zero]; rfl); exact rfl; (simp only [Act.put, List.setIfInBounds_toArray, List.set_cons_succ, List.set_cons_zero])) | (go_at_call 28; go_must ((with_reducible refine (NN _ _ HO).mono ?_); rintro e w ⟨rfl, hb⟩; replace HO := HO.call hb; clear hb)) | (go_at_call 32; go_must ((with_reducible refine (SY _ _ HO).mono ?_); clear HO; rintro e w ⟨rfl, u', i', HO⟩)))
      go_ret
      exact ⟨rfl, u', a.v, i', fun h => absurd hk h, HO.sub (by exact .cons_cons _ (.cons_cons _ (.cons_cons _ (.cons_cons _ (.cons_cons _ (.cons_cons _ (.cons_cons _ (.cons _ (List.Sublist.refl _)))))))))⟩
    · rw [show applyS S A x = S by unfold applyS; rw [if_neg (by omega), if_neg (by omega), if_neg (by omega), if_pos hk, if_neg hn]]
      rw [show applyI A x = A by unfold applyI; rw [if_neg (fun h => hn h.2)]]
      have SN := SN hn
      clear PL ST SY RP
      generalize accE A x.p x.q x.rs = ex at *
      go_enter Tryd.func10, Tryd.ntmps10
      go_wp2_with (first | go_big_skip | (first | go_big_skip | ((with_reducible apply wpList_loadAll HO); exact rfl; exact rfl; (repeat (with_reducible (first | exact At.head _ | apply At.tail))); infer_instance; exact rfl; exact rfl; (simp only [Act.put, List.setIfInBounds_toArray, List.set_cons_succ, List.set_cons_zero])) | ((with_reducible apply wpList_loadOne HO); exact rfl; exact rfl; (repeat (with_reducible (first | exact At.head _ | apply At.tail))); exact rfl; infer_instance; exact rfl; (simp only [Act.put, List.setIfInBounds_toArray, List.set_cons_succ, List.set_cons_zero]))) | ((with_reducible apply wpList_storeAll HO); exact rfl; exact rfl; exact rfl; (repeat (with_reducible (first | exact At.head _ | apply At.tail))); infer_instance; exact rfl; exact rfl; exact rfl; exact rfl; clear HO; intro w HO; (simp only [Act.put])) | (first | ((with_reducible apply wpList_boxAgg _ HO rfl); exact rfl; exact rfl; exact rfl; clear HO; intro b1 w HO; (simp only [Act.put, List.setIfInBounds_toArray, List.set_cons_succ, List.set_cons_zero])) | ((with_reducible apply wpList_allocAgg _ HO rfl); exact rfl; infer_instance; exact rfl; clear HO; intro b1 w HO; (simp only [Act.put, List.setIfInBounds_toArray, List.set_cons_succ, List.set_cons_zero]))) | ((with_reducible apply wpList_loadPart HO); exact rfl; exact rfl; (repeat (with_reducible (first | exact At.head _ | apply At.tail))); infer_instance; exact (Nat.le_of_ble_eq_true rfl); (simp only [List.drop_succ_cons, List.drop_zero, List.take_succ_cons, List.take_zero]; rfl); exact rfl; (simp only [Act.put, List.setIfInBounds_toArray, List.set_cons_succ, List.set_cons_zero])) | (go_at_call 28; go_must ((with_reducible refine (NN _ _ HO).mono ?_); rintro e w ⟨rfl, hb⟩; replace HO := HO.call hb; clear hb)) | (go_at_call 32; go_must ((with_reducible refine (SN _ _ HO).mono ?_); clear HO; rintro e w ⟨rfl, HO⟩)))
      go_ret
      exact ⟨rfl, a.u, a.v, i, fun _ => rfl, HO.sub (by exact .cons_cons _ (.cons_cons _ (.cons_cons _ (.cons_cons _ (.cons_cons _ (.cons_cons _ (.cons_cons _ (.cons _ (List.Sublist.refl _)))))))))⟩
  · rw [show applyE S A x = 2 by unfold applyE; rw [if_neg h1, if_neg h2, if_neg h3, if_neg h4]]
    rw [show applyS S A x = S by unfold applyS; rw [if_neg h1, if_neg h2, if_neg h3, if_neg h4]]
    rw [show applyI A x = A by unfold applyI; rw [if_neg (fun h => h4 h.1)]]
    clear PL ST SN SY RP
    go_enter Tryd.func10, Tryd.ntmps10
    go_wp2_with (first | go_big_skip | (first | go_big_skip | ((with_reducible apply wpList_loadAll HO); exact rfl; exact rfl; (repeat (with_reducible (first | exact At.head _ | apply At.tail))); infer_instance; exact rfl; exact rfl; (simp only [Act.put, List.setIfInBounds_toArray, List.set_cons_succ, List.set_cons_zero])) | ((with_reducible apply wpList_loadOne HO); exact rfl; exact rfl; (repeat (with_reducible (first | exact At.head _ | apply At.tail))); exact rfl; infer_instance; exact rfl; (simp only [Act.put, List.setIfInBounds_toArray, List.set_cons_succ, List.set_cons_zero]))) | ((with_reducible apply wpList_storeAll HO); exact rfl; exact rfl; exact rfl; (repeat (with_reducible (first | exact At.head _ | apply At.tail))); infer_instance; exact rfl; exact rfl; exact rfl; exact rfl; clear HO; intro w HO; (simp only [Act.put])) | (first | ((with_reducible apply wpList_boxAgg _ HO rfl); exact rfl; exact rfl; exact rfl; clear HO; intro b1 w HO; (simp only [Act.put, List.setIfInBounds_toArray, List.set_cons_succ, List.set_cons_zero])) | ((with_reducible apply wpList_allocAgg _ HO rfl); exact rfl; infer_instance; exact rfl; clear HO; intro b1 w HO; (simp only [Act.put, List.setIfInBounds_toArray, List.set_cons_succ, List.set_cons_zero]))) | ((with_reducible apply wpList_loadPart HO); exact rfl; exact rfl; (repeat (with_reducible (first | exact At.head _ | apply At.tail))); infer_instance; exact (Nat.le_of_ble_eq_true rfl); (simp only [List.drop_succ_cons, List.drop_zero, List.take_succ_cons, List.take_zero]; rfl); exact rfl; (simp only [Act.put, List.setIfInBounds_toArray, List.set_cons_succ, List.set_cons_zero])) | (go_at_call 28; go_must ((with_reducible refine (NN _ _ HO).mono ?_); rintro e w ⟨rfl, hb⟩; replace HO := HO.call hb; clear hb)))
    go_ret
    exact ⟨rfl, a.u, a.v, i, fun _ => rfl, HO.tail⟩
end Go.Proofs.YtibabfedpdoofaaDoor
namespace Go.Proofs.YtibabfedpdoofaaDoor
open Go.RowKit Go.Own Go.Maps

theorem placeL_ok {L : List (OrdS × D6)} {o : OrdS} (hl : L.length ≤ 60) (h : ∀ x ∈ L, ordE x.1 = 0) : (placeL L o).length ≤ 60 ∧ ∀ x ∈ placeL L o, ordE x.1 = 0 := by
  unfold placeL
  split
  · rename_i h1
    unfold placeE at h1
    split at h1
    · rename_i h2; exact absurd h1 h2
    · rename_i h2
      split at h1
      · cases h1
      · split at h1
        · cases h1
        · refine ⟨by simp; omega, fun x hx => ?_⟩
          rcases List.mem_append.1 hx with hx | hx
          · exact h x hx
          · obtain rfl := List.mem_singleton.1 hx
            simpa using h2
  · exact ⟨hl, h⟩
theorem sagAt_ok {L : List (OrdS × D6)} {id : Int} {x : OrdS × D6} {t : D6} (hx : ordAt L id = some x) (hl : L.length ≤ 60) (h : ∀ x ∈ L, ordE x.1 = 0) : (sagAt L id (x.1, t)).length ≤ 60 ∧ ∀ z ∈ sagAt L id (x.1, t), ordE z.1 = 0 := by
  obtain ⟨j, hj, _, rfl⟩ := ordAt_some hx
  refine ⟨by simpa [sagAt] using hl, fun y hy => ?_⟩
  rcases List.mem_or_eq_of_mem_set hy with hy | rfl
  · exact h y hy
  · exact h L[j] (List.getElem_mem hj)
theorem postL_len1 (l : List Pst) (p : Pst) : (postL l p).length ≤ l.length + 1 := by
  unfold postL
  split
  · simp
  · omega
theorem applyS_ok {S : CoS} {A : InS} (h : CoOk S) (x : EntS) : CoOk (applyS S A x) ∧ (applyS S A x).P.length ≤ S.P.length + 60 := by
  unfold applyS
  split
  · exact ⟨⟨(placeL_ok h.len h.ord).1, (placeL_ok h.len h.ord).2, h.bk⟩, by simp⟩
  split
  · refine ⟨?_, by simp⟩
    show CoOk ⟨stopL S.L x.o, S.P⟩
    unfold stopL
    split
    · exact h
    · rename_i y hy
      split
      · exact h
      · exact ⟨(sagAt_ok hy h.len h.ord).1, (sagAt_ok hy h.len h.ord).2, h.bk⟩
  split
  · unfold replyS
    split
    · exact ⟨h, by omega⟩
    · rename_i y hy
      split
      · exact ⟨h, by omega⟩
      · refine ⟨⟨(sagAt_ok hy h.len h.ord).1, (sagAt_ok hy h.len h.ord).2, ?_⟩, ?_⟩
        · show Bk (replyP S.P _ _ _)
          unfold replyP
          split
          · exact h.bk.post _
          · split
            · exact h.bk.post _
            · exact h.bk
        · show (replyP S.P _ _ _).length ≤ _
          unfold replyP
          split
          · exact Nat.le_trans (postL_len1 _ _) (by omega)
          · split
            · exact Nat.le_trans (postL_len1 _ _) (by omega)
            · omega
  split
  · split
    · exact ⟨⟨h.len, h.ord, (stmtP_ok h.bk _ _ _).1⟩, (stmtP_ok h.bk _ _ _).2⟩
    · exact ⟨h, by omega⟩
  · exact ⟨h, by omega⟩
theorem applyI_ok {A : InS} (h : InOk A) (x : EntS) : InOk (applyI A x) := by
  unfold applyI
  split
  · rename_i h1
    exact put_ok h (accE_ok h1.2).1
  · exact h
theorem coNew_ok : CoOk ⟨[], []⟩ := ⟨by simp, by simp, .nil⟩
/-- What entries come to. -/
def coreS : CoS × InS → List EntS → CoS × InS := List.foldl (fun s x => (applyS s.1 s.2 x, applyI s.2 x))
def coreOf (l : List EntS) : CoS × InS := coreS (⟨[], []⟩, zeroI) l
theorem coreOf_snoc (l : List EntS) {j : Nat} (hj : j < l.length) : coreOf (l.take (j + 1)) = (applyS (coreOf (l.take j)).1 (coreOf (l.take j)).2 l[j], applyI (coreOf (l.take j)).2 l[j]) := by
  rw [coreOf, List.take_succ_eq_append_getElem hj, coreS, List.foldl_append]
  rfl
theorem coreOf_ok (l : List EntS) : ∀ j ≤ l.length, CoOk (coreOf (l.take j)).1 ∧ (coreOf (l.take j)).1.P.length ≤ 60 * j ∧ InOk (coreOf (l.take j)).2
  | 0, _ => ⟨coNew_ok, by simp [coreOf, coreS], zeroI_ok⟩
  | j + 1, h => by
    obtain ⟨h1, h2, h3⟩ := coreOf_ok l j (by omega)
    rw [coreOf_snoc l (by omega)]
    obtain ⟨h4, h5⟩ := applyS_ok (A := (coreOf (l.take j)).2) h1 l[j]
    exact ⟨h4, by dsimp only; omega, applyI_ok h3 _⟩
end Go.Proofs.YtibabfedpdoofaaDoor
namespace Go.Own
open Go.RowKit
theorem wpList_lit0 {P : Program} {ops : Array Oper} {rest : List Oper} {o : Oper} {a : Act} {W w : World} {Q : Exit → Act → World → Prop} {L : List Ent} {t e k by' : Nat} (hO : Own W w L) (ho : o.op = .buildSlice t 0 #[]) (ht : IsSlice P t e) (he : IsElem P e k by')
    (hw : Region.wanted o (yielded ops a.tmps) = true) (h : ∀ b w', Own W w' (row e k (.slice (some ⟨b, 0, none⟩) 0 0) [] :: L) → wpList P ops Q rest (a.put o.dst (.slice (some ⟨b, 0, none⟩) 0 0)) w') : wpList P ops Q (o :: rest) a w := by
  have h1 := he.out
  have hpos := he.pos
  cases hi : P.info? e with
  | none => simp [hi] at h1
  | some i =>
    cases hzz : i.zero with
    | none => simp [hi, hzz] at h1
    | some zv =>
      simp only [hi, hzz, Option.bind_some, Option.map_some, Option.some.injEq, Prod.mk.injEq] at h1
      obtain ⟨h2, h3, _⟩ := h1
      have hr : (execOp a.eval o).run P w = .ok (.value (.slice (some ⟨w.heap.size, 0, none⟩) 0 0)) (w.alloc (.cells #[] e)) := by
        unfold execOp
        simp only [ho, Instr.buildSlice]
        simp [underlying, ht.out, sizeOf, typeInfo, hi, newRow, Instr.fill, show Array.range 0 = #[] by simp [Array.range]]
      refine wpList_value hw hr (h _ _ (hO.more ((Below.refl _ _).alloc (Nat.le_refl _) _) (row_ok _ _ _ _) (World.ownsRow_made w #[] 0 (Nat.zero_le _) (Nat.zero_le _) (by simp)) (fun b hb => ?_) (fun b hb => ?_)))
      · rw [show b = w.heap.size from List.mem_singleton.1 hb]; exact Nat.le_refl _
      · rw [show b = w.heap.size from List.mem_singleton.1 hb]; simp
end Go.Own
namespace Go.Proofs.YtibabfedpdoofaaDoor
open Go.RowKit Go.Own Go.Maps Go.Shelf

theorem pstC_one (l : List Pst) : ∀ u ∈ (l.map pstC).flatten, u.oneCell' = true := by
  intro u hu
  obtain ⟨x, hx, hu⟩ := List.mem_flatten.1 hu
  obtain ⟨p, _, rfl⟩ := List.mem_map.1 hx
  simp only [pstC, List.mem_cons, List.not_mem_nil, or_false] at hu
  rcases hu with rfl | rfl | rfl | rfl | rfl <;> rfl

theorem BkAt.isL {w : World} {b : Nat} {v : Value} {pm bm : Nat} {l : List Pst} (h : BkAt w b v pm bm l) : IsL w 5 v (l.map pstC) ∧ ∀ n c, v = .slice none n c → n = 0 := by
  refine ⟨isL_of_owns (pstC_len l) h.row, fun n c e => ?_⟩
  rcases h.row.2 with ⟨rfl, h0⟩ | ⟨g, cap, cur, rfl, _⟩
  · cases e; rfl
  · cases e

end Go.Proofs.YtibabfedpdoofaaDoor
namespace Go.Proofs.YtibabfedpdoofaaDoor
open Go.RowKit Go.Own Go.Maps

structure LineS where
  o : Int
  s : Int
  a : Int
deriving DecidableEq
def lineC (x : LineS) : List Value := [.int .i64 x.o, .int .i64 x.s, .int .i64 x.a]
theorem lineC_len (l : List LineS) : ∀ x ∈ l.map lineC, x.length = 3 := fun x hx => by
  obtain ⟨y, _, rfl⟩ := List.mem_map.1 hx
  rfl
theorem lineC_one (l : List LineS) : ∀ u ∈ (l.map lineC).flatten, u.oneCell' = true := by
  intro u hu
  obtain ⟨x, hx, hu⟩ := List.mem_flatten.1 hu
  obtain ⟨p, _, rfl⟩ := List.mem_map.1 hx
  simp only [lineC, List.mem_cons, List.not_mem_nil, or_false] at hu
  rcases hu with rfl | rfl | rfl <;> rfl
def agC (now : Int) (v : Value) : List Value := [.bool true, .int .i64 now, v]
/-- An aging in a world. -/
structure AgAt (w : World) (g : Nat) (now : Int) (v : Value) (ls : List LineS) : Prop where
  box : w.heap[g]? = some (.cells (agC now v).toArray 69)
  row : IsL w 3 v (ls.map lineC)
theorem AgAt.below {w w' : World} {g : Nat} {now : Int} {v : Value} {ls : List LineS} (h : AgAt w g now v ls) (hb : Below w.heap.size w w') : AgAt w' g now v ls :=
  ⟨by rw [hb.block _ (old_lt h.box)]; exact h.box, h.row.below hb h.row.lt⟩
def agPs (g : Nat) (now : Int) (v : Value) (ls : List LineS) : List Ent := [box g (.cells (agC now v).toArray 69), row 47 3 v (ls.map lineC)]
theorem Own.agAt {W w : World} {L : List Ent} {g : Nat} {now : Int} {v : Value} {ls : List LineS} (h : Own W w L) (h1 : Go.Own.box g (.cells (agC now v).toArray 69) ∈ L) (h2 : Go.Own.row 47 3 v (ls.map lineC) ∈ L) : AgAt w g now v ls :=
  ⟨h.has _ h1, isL_of_owns (lineC_len _) (h.has _ h2)⟩

set_option maxHeartbeats 4000000 in
theorem agNew_any (W : World) : Calls Tryd.prog 8 #[] W fun e w' => ∃ g, e = .returned (.pointer (some ⟨g, 0, none⟩)) ∧ Own W w' (agPs g 0 (.slice none 0 0) []) := by
  have HO := Own.start W
  go_enter Tryd.func8, Tryd.ntmps8
  go_wp2_with (first | (first | ((with_reducible apply wpList_boxAgg _ HO rfl); exact rfl; exact rfl; exact rfl; clear HO; intro b1 w HO; (simp only [Act.put, List.setIfInBounds_toArray, List.set_cons_succ, List.set_cons_zero])) | ((with_reducible apply wpList_allocAgg _ HO rfl); exact rfl; infer_instance; exact rfl; clear HO; intro b1 w HO; (simp only [Act.put, List.setIfInBounds_toArray, List.set_cons_succ, List.set_cons_zero]))) | go_big_skip)
  go_ret
  exact ⟨b1, rfl, (HO.nil 47 3).perm (List.Perm.swap _ _ _)⟩

set_option maxHeartbeats 4000000 in
theorem agNone_any {w : World} {g : Nat} {cs : List Value} {b : Bool} (h : w.heap[g]? = some (.cells (.bool b :: cs).toArray 69)) : Calls Tryd.prog 33 #[.pointer (some ⟨g, 0, none⟩)] w fun e w' => e = .returned (.bool (!b)) ∧ Below w.heap.size w w' := by
  have HO := Own.start w
  have h1 := old_cell h 0 rfl
  have hlt := old_lt h
  clear h
  go_enter Tryd.func33, Tryd.ntmps33
  go_wp2_with (first | go_big_skip | ((with_reducible apply wpList_loadOld1 HO); exact rfl; exact rfl; exact hlt; exact h1; infer_instance; exact rfl; (simp only [Act.put, List.setIfInBounds_toArray, List.set_cons_succ, List.set_cons_zero])))
  go_ret
  exact ⟨rfl, HO.grown⟩

set_option maxHeartbeats 4000000 in
theorem agNoneNil_any (w : World) : Calls Tryd.prog 33 #[.pointer none] w fun e w' => e = .returned (.bool true) ∧ Below w.heap.size w w' := by
  have HO := Own.start w
  go_enter Tryd.func33, Tryd.ntmps33
  go_wp2_with fail
  go_ret
  exact ⟨rfl, HO.grown⟩

theorem find_at {α : Type} {f : α → Bool} {l : List α} {j : Nat} (hj : j < l.length) (h : (l.take j).find? f = none) (hp : f l[j] = true) : l.find? f = some l[j] := by
  have h1 : l.find? f = (l.take j ++ l.drop j).find? f := by rw [List.take_append_drop]
  rw [h1, List.find?_append, h, Option.none_or, List.drop_eq_getElem_cons hj, List.find?_cons_of_pos hp]
def sinceOf (ls : List LineS) (now id : Int) : Int := match ls.find? (fun x => decide (x.o = id)) with
  | some x => x.s
  | none => now

set_option maxHeartbeats 8000000 in
set_option maxRecDepth 100000 in
theorem agSince_any {w : World} {g : Nat} {now : Int} {v : Value} {ls : List LineS} (h : AgAt w g now v ls) (id : Int) : Calls Tryd.prog 34 #[.pointer (some ⟨g, 0, none⟩), .int .i64 id] w fun e w' => e = .returned (.int .i64 (sinceOf ls now id)) ∧ Below w.heap.size w w' := by
  have HO := Own.start w
  obtain ⟨p, c, hv, hmx⟩ := h.row.slice
  rw [List.length_map] at hv hmx
  have HR := Lib.hid h.row
  have h1 := old_cell h.box 1 rfl
  have h2 := old_cell h.box 2 rfl
  have hlt := old_lt h.box
  have hmx' : (ls.length : Int) ≤ 9223372036854775807 := by unfold maxLen at hmx; omega
  subst hv
  clear h
  generalize hg : sinceOf ls now id = g0
  replace hg := Lib.hid hg
  go_enter Tryd.func34, Tryd.ntmps34
  go_wp2_with (first | go_big_skip | ((with_reducible apply wpList_loadOld1 HO); exact rfl; exact rfl; exact hlt; exact h2; infer_instance; exact rfl; (simp only [Act.put, List.setIfInBounds_toArray, List.set_cons_succ, List.set_cons_zero])))
  go_loopw [12] (fun i wr => ∃ j : Nat, j ≤ ls.length ∧ i = .int .i64 (j : Int) ∧ (ls.take j).find? (fun x => decide (x.o = id)) = none ∧ Own w wr []) (fun i _ => ls.length - (intOf i).toNat)
  case atStart => exact ⟨0, by omega, rfl, rfl, HO⟩
  case round =>
    clear HO
    obtain ⟨j, hj, rfl, hnf, HO⟩ := hrel
    by_cases hjl : j < ls.length
    · have hjI : (j : Int) < (ls.length : Int) := by omega
      obtain ⟨b, rfl, hst⟩ := oldAt HR.out rfl hjl
      have HX := Lib.hid (show ls[j].o ≠ id → (ls.take (j + 1)).find? (fun x => decide (x.o = id)) = none from fun hx => by
        rw [List.take_succ_eq_append_getElem hjl, List.find?_append, hnf]
        simpa using hx)
      have HY := Lib.hid (show ls[j].o = id → sinceOf ls now id = ls[j].s from fun hx => by
        unfold sinceOf
        rw [find_at hjl hnf (by simpa using hx)])
      clear hnf
      generalize ls[j] = y at *
      obtain ⟨yo, ys, ya⟩ := y
      unfold lineC at hst
      replace hst := Lib.hid hst
      simp only at HX HY
      by_cases hz : yo = id
      · obtain rfl := hg.out.symm.trans (HY.out hz)
        clear HX HY
        go_wp2_with (first | (first | go_big_skip | ((with_reducible apply wpList_loadAll HO); exact rfl; exact rfl; (repeat (with_reducible (first | exact At.head _ | apply At.tail))); infer_instance; exact rfl; exact rfl; (simp only [Act.put, List.setIfInBounds_toArray, List.set_cons_succ, List.set_cons_zero])) | ((with_reducible apply wpList_loadOne HO); exact rfl; exact rfl; (repeat (with_reducible (first | exact At.head _ | apply At.tail))); exact rfl; infer_instance; exact rfl; (simp only [Act.put, List.setIfInBounds_toArray, List.set_cons_succ, List.set_cons_zero]))) | ((with_reducible apply wpList_loadAt HO); exact rfl; exact rfl; exact (fun w' h1 => hst.out w' h1.grown); infer_instance; exact rfl; exact rfl; (simp only [Act.put, List.setIfInBounds_toArray, List.set_cons_succ, List.set_cons_zero])) | (first | ((with_reducible apply wpList_boxAgg _ HO rfl); exact rfl; exact rfl; exact rfl; clear HO; intro b1 w HO; (simp only [Act.put, List.setIfInBounds_toArray, List.set_cons_succ, List.set_cons_zero])) | ((with_reducible apply wpList_allocAgg _ HO rfl); exact rfl; infer_instance; exact rfl; clear HO; intro b1 w HO; (simp only [Act.put, List.setIfInBounds_toArray, List.set_cons_succ, List.set_cons_zero]))) | ((with_reducible apply wpList_storeAll HO); exact rfl; exact rfl; exact rfl; (repeat (with_reducible (first | exact At.head _ | apply At.tail))); infer_instance; exact rfl; exact rfl; exact rfl; exact rfl; clear HO; intro w HO; (simp only [Act.put])))
        go_ret
        exact ⟨rfl, HO.grown⟩
      · have HZ := Lib.hid (HX.out hz)
        clear HX HY
        go_wp2_with (first | (first | go_big_skip | ((with_reducible apply wpList_loadAll HO); exact rfl; exact rfl; (repeat (with_reducible (first | exact At.head _ | apply At.tail))); infer_instance; exact rfl; exact rfl; (simp only [Act.put, List.setIfInBounds_toArray, List.set_cons_succ, List.set_cons_zero])) | ((with_reducible apply wpList_loadOne HO); exact rfl; exact rfl; (repeat (with_reducible (first | exact At.head _ | apply At.tail))); exact rfl; infer_instance; exact rfl; (simp only [Act.put, List.setIfInBounds_toArray, List.set_cons_succ, List.set_cons_zero]))) | ((with_reducible apply wpList_loadAt HO); exact rfl; exact rfl; exact (fun w' h1 => hst.out w' h1.grown); infer_instance; exact rfl; exact rfl; (simp only [Act.put, List.setIfInBounds_toArray, List.set_cons_succ, List.set_cons_zero])) | (first | ((with_reducible apply wpList_boxAgg _ HO rfl); exact rfl; exact rfl; exact rfl; clear HO; intro b1 w HO; (simp only [Act.put, List.setIfInBounds_toArray, List.set_cons_succ, List.set_cons_zero])) | ((with_reducible apply wpList_allocAgg _ HO rfl); exact rfl; infer_instance; exact rfl; clear HO; intro b1 w HO; (simp only [Act.put, List.setIfInBounds_toArray, List.set_cons_succ, List.set_cons_zero]))) | ((with_reducible apply wpList_storeAll HO); exact rfl; exact rfl; exact rfl; (repeat (with_reducible (first | exact At.head _ | apply At.tail))); infer_instance; exact rfl; exact rfl; exact rfl; exact rfl; clear HO; intro w HO; (simp only [Act.put])))
        replace HO := HO.tail
        go_roundw
        case rel => exact ⟨j + 1, by omega, by go_num, HZ.out, HO⟩
        case measure => simp [intOf] <;> omega
    · obtain rfl : j = ls.length := by omega
      rw [List.take_length] at hnf
      obtain rfl : g0 = now := hg.out.symm.trans (by unfold sinceOf; rw [hnf])
      clear hnf
      go_wp2_with (first | go_big_skip | ((with_reducible apply wpList_loadOld1 HO); exact rfl; exact rfl; exact hlt; exact h1; infer_instance; exact rfl; (simp only [Act.put, List.setIfInBounds_toArray, List.set_cons_succ, List.set_cons_zero])))
      go_ret
      exact ⟨rfl, HO.grown⟩

set_option maxHeartbeats 8000000 in
set_option maxRecDepth 100000 in
theorem lClone_any {W : World} {v : Value} {l : List LineS} (h : IsL W 3 v (l.map lineC)) (hnil : ∀ n c, v = .slice none n c → n = 0) (hlen : l.length ≤ 100000) : Calls Tryd.prog 35 #[v] W fun e w' => ∃ v', e = .returned v' ∧ Own W w' [row 47 3 v' (l.map lineC)] := by
  have HO := Own.start W
  have HH := Lib.hid (fun (w' : World) (L : List Ent) (hO : Own W w' L) => h.below hO.grown h.lt)
  have HL := Lib.hid (lineC_len l)
  have H1 := Lib.hid (lineC_one l)
  have hlen1 : ([] : List (List Value)).length + (l.map lineC).length ≤ 1000000 := by rw [List.length_map]; simp; omega
  obtain ⟨sp, sc, rfl, -⟩ := h.slice
  rw [List.length_map] at HH hnil ⊢
  clear h
  cases sp with
  | none =>
    have h0 : l.length = 0 := hnil _ _ rfl
    obtain rfl : l = [] := List.length_eq_zero_iff.1 h0
    replace HO := HO.nil 47 3
    have hq := fun w => Lib.run_eql_slice_nil (P := Tryd.prog) w _ _ (none : Option Addr) 0 sc 0 0 Tryd.underlying42
    clear h0 hnil
    go_enter Tryd.func35, Tryd.ntmps35
    go_wp2_with fail
    go_ret
    exact ⟨_, rfl, HO⟩
  | some a =>
    have hq := fun w => Lib.run_eql_slice_nil (P := Tryd.prog) w _ _ (some a) l.length sc 0 0 Tryd.underlying42
    clear hnil
    go_enter Tryd.func35, Tryd.ntmps35
    go_wp2_with (first | ((with_reducible apply wpList_lit0 (k := 3) HO); exact rfl; infer_instance; infer_instance; exact rfl; clear HO; intro bl w HO; (simp only [Act.put, List.setIfInBounds_toArray, List.set_cons_succ, List.set_cons_zero])) | ((with_reducible apply wpList_appendAll HO); exact rfl; infer_instance; infer_instance; (first | (simp [Act.eval]; rfl) | exact rfl); exact rfl; exact (HH.out _ _ HO); exact HL.out; exact H1.out; intro _; (repeat (with_reducible (first | exact At.head _ | apply At.tail))); (first | omega | (simp; omega)); decide; exact rfl; clear HO; intro v2 w HO hv2; (simp only [Act.put, List.setIfInBounds_toArray, List.set_cons_succ, List.set_cons_zero])) | go_big_skip)
    go_ret
    exact ⟨_, rfl, by simpa using HO⟩
def rowNil (v : Value) : Prop := ∀ n c, v = .slice none n c → n = 0
theorem rowNil_of {w : World} {t k : Nat} {v : Value} {L : List (List Value)} (h : w.ownsRow 0 t k v L.length L.flatten) : rowNil v := by
  intro n c hv
  rcases h.2 with ⟨rfl, _⟩ | ⟨g, cap, cur, rfl, _⟩
  · cases hv; rfl
  · cases hv

set_option maxHeartbeats 4000000 in
theorem agLines_any {w : World} {g : Nat} {now : Int} {v : Value} {ls : List LineS} (h : AgAt w g now v ls) (hn : rowNil v) (hlen : ls.length ≤ 100000) : Calls Tryd.prog 12 #[.pointer (some ⟨g, 0, none⟩)] w fun e w' => ∃ v', e = .returned v' ∧ Own w w' [row 47 3 v' (ls.map lineC)] := by
  have HO := Own.start w
  have N := fun w' (hb : Below w.heap.size w w') => agNone_any (b := true) (h.below hb).box
  have C := fun w' (hb : Below w.heap.size w w') => lClone_any (h.below hb).row hn hlen
  have h2 := old_cell h.box 2 rfl
  have hlt := old_lt h.box
  clear h
  go_enter Tryd.func12, Tryd.ntmps12
  go_wp2_with (first | go_big_skip | ((with_reducible apply wpList_loadOld1 HO); exact rfl; exact rfl; exact hlt; exact h2; infer_instance; exact rfl; (simp only [Act.put, List.setIfInBounds_toArray, List.set_cons_succ, List.set_cons_zero])) | (go_at_call 33; go_must ((with_reducible refine (N _ HO.grown).mono ?_); rintro e w ⟨rfl, hb⟩; replace HO := HO.call hb; clear hb)) | (go_at_call 35; go_must ((with_reducible refine (C _ HO.grown).mono ?_); rintro e w ⟨v9, rfl, HO1⟩; replace HO := HO.lift HO1; clear HO1; simp only [List.cons_append, List.nil_append] at HO)))
  go_ret
  exact ⟨_, rfl, HO⟩

set_option maxHeartbeats 4000000 in
theorem agLinesNo_any {w : World} {g : Nat} {cs : List Value} (h : w.heap[g]? = some (.cells (.bool false :: cs).toArray 69)) : Calls Tryd.prog 12 #[.pointer (some ⟨g, 0, none⟩)] w fun e w' => e = .returned (.slice none 0 0) ∧ Below w.heap.size w w' := by
  have HO := Own.start w
  have N := agNone_any (b := false) h
  go_enter Tryd.func12, Tryd.ntmps12
  go_wp2_with (first | go_big_skip | (go_at_call 33; go_must ((with_reducible refine (N).mono ?_); rintro e w ⟨rfl, hb⟩; replace HO := HO.call hb; clear hb)))
  go_ret
  exact ⟨rfl, HO.grown⟩
set_option maxHeartbeats 4000000 in
theorem agLinesNil_any (w : World) : Calls Tryd.prog 12 #[.pointer none] w fun e w' => e = .returned (.slice none 0 0) ∧ Below w.heap.size w w' := by
  have HO := Own.start w
  have N := agNoneNil_any
  go_enter Tryd.func12, Tryd.ntmps12
  go_wp2_with (first | go_big_skip | (go_at_call 33; go_must ((with_reducible refine (N _).mono ?_); rintro e w ⟨rfl, hb⟩; replace HO := HO.call hb; clear hb)))
  go_ret
  exact ⟨rfl, HO.grown⟩

def seeN (now t : Int) : Int := max now (min t 1099511627776)
def seeL (ls : List LineS) (now : Int) (P : List Pst) : Nat → List LineS
  | 0 => []
  | k + 1 => seeL ls now P k ++ (if bal P 1 ((k : Int) + 1) = 0 then [] else [⟨(k : Int) + 1, sinceOf ls now ((k : Int) + 1), bal P 1 ((k : Int) + 1)⟩])

theorem seeL_len (ls : List LineS) (now : Int) (P : List Pst) : ∀ k, (seeL ls now P k).length ≤ k
  | 0 => by simp [seeL]
  | k + 1 => by
    have := seeL_len ls now P k
    unfold seeL
    rw [List.length_append]
    split <;> simp <;> omega

set_option maxHeartbeats 16000000 in
set_option maxRecDepth 100000 in
theorem agSee_any {W w : World} {M : List Ent} {g : Nat} {now : Int} {v : Value} {ls : List LineS} {a : CoA} {S : CoS} {i : InA} {A : InS} (t : Int) (HO : Own W w (agPs g now v ls ++ M)) (HC : ∀ (w' : World) (L' : List Ent), Own W w' L' → (∀ e ∈ M, e ∈ L') → CoAt w' a S i A) (hlen : S.L.length ≤ 60) :
    Calls Tryd.prog 11 #[.pointer (some ⟨g, 0, none⟩), .int .i64 t, .pointer (some ⟨a.c, 0, none⟩)] w fun e w' => ∃ v', e = .returned (.tuple #[]) ∧ Own W w' (agPs g (seeN now t) v' (seeL ls (seeN now t) S.P S.L.length) ++ M) := by
  have N := fun (w : World) (L : List Ent) (h : Own W w L) (h1 : box g (.cells (agC now v).toArray 69) ∈ L) => agNone_any (b := true) (cs := [.int .i64 now, v]) (h.has _ h1)
  unfold agPs at HO
  simp only [List.cons_append, List.nil_append, agC] at HO N
  go_enter Tryd.func11, Tryd.ntmps11
  go_wp2_with (first | go_big_skip | (first | go_big_skip | ((with_reducible apply wpList_loadAll HO); exact rfl; exact rfl; (repeat (with_reducible (first | exact At.head _ | apply At.tail))); infer_instance; exact rfl; exact rfl; (simp only [Act.put, List.setIfInBounds_toArray, List.set_cons_succ, List.set_cons_zero])) | ((with_reducible apply wpList_loadOne HO); exact rfl; exact rfl; (repeat (with_reducible (first | exact At.head _ | apply At.tail))); exact rfl; infer_instance; exact rfl; (simp only [Act.put, List.setIfInBounds_toArray, List.set_cons_succ, List.set_cons_zero]))) | ((with_reducible apply wpList_storeOne HO); exact rfl; exact rfl; (first | (simp [Act.eval]; rfl) | exact rfl); exact rfl; (repeat (with_reducible (first | exact At.head _ | apply At.tail))); infer_instance; exact (by simp); (simp only [List.set_cons_succ, List.set_cons_zero]; rfl); exact rfl; clear HO; intro w HO; (simp only [Act.put])) | (first | ((with_reducible apply wpList_boxAgg _ HO rfl); exact rfl; exact rfl; exact rfl; clear HO; intro b1 w HO; (simp only [Act.put, List.setIfInBounds_toArray, List.set_cons_succ, List.set_cons_zero])) | ((with_reducible apply wpList_allocAgg _ HO rfl); exact rfl; infer_instance; exact rfl; clear HO; intro b1 w HO; (simp only [Act.put, List.setIfInBounds_toArray, List.set_cons_succ, List.set_cons_zero]))) | (go_at_call 33; go_must ((with_reducible refine (N _ _ HO (by repeat (first | exact List.mem_cons_self | apply List.mem_cons_of_mem))).mono ?_); rintro e w ⟨rfl, hb⟩; replace HO := HO.call hb; clear hb)))
  have HNI := Lib.hid (rfl : seeN now t = max now (min t 1099511627776))
  have hn1 : (max now (min t 1099511627776)) = seeN now t := HNI.out.symm
  rw [hn1] at HO
  generalize hnw : seeN now t = nw at *
  clear HNI hn1
  have N' := fun (w : World) (L : List Ent) (h : Own W w L) (h1 : box g (.cells (agC nw v).toArray 69) ∈ L) (h2 : row 47 3 v (ls.map lineC) ∈ L) (id : Int) => agSince_any (Own.agAt h h1 h2) id
  simp only [agC] at N'
  have HN := Lib.hid N'
  have OC := Lib.hid (fun (w : World) (L : List Ent) (h : Own W w L) (hm : ∀ e ∈ M, e ∈ L) => coOrders_any (HC w L h hm))
  have BC := Lib.hid (fun (w : World) (L : List Ent) (h : Own W w L) (hm : ∀ e ∈ M, e ∈ L) (k : Nat) (hk : k < 60) => coBal_any (HC w L h hm) (n := 1) (o := (k : Int) + 1) rfl (inI_iff.2 (by omega)))
  have HL := Lib.hid (fun k => show seeL ls nw S.P (k + 1) = seeL ls nw S.P k ++ (if bal S.P 1 ((k : Int) + 1) = 0 then [] else [⟨(k : Int) + 1, sinceOf ls nw ((k : Int) + 1), bal S.P 1 ((k : Int) + 1)⟩]) from rfl)
  have hsl := Lib.hid (seeL_len ls nw S.P)
  clear HC N N'
  replace HO := HO.nil 47 3
  go_loopw [6, 7] (fun vl iv wr => ∃ k : Nat, k ≤ S.L.length ∧ iv = .int .i64 ((k : Int) + 1) ∧ Own W wr (row 47 3 vl ((seeL ls nw S.P k).map lineC) :: box g (.cells #[.bool true, .int .i64 nw, v] 69) :: row 47 3 v (ls.map lineC) :: M)) (fun _ iv _ => 62 - (intOf iv).toNat)
  case atStart => exact ⟨0, by omega, rfl, HO⟩
  case round =>
    clear HO
    obtain ⟨k, hk, rfl, HO⟩ := hrel
    by_cases hkl : k < S.L.length
    · have hkI : (k : Int) + 1 ≤ (S.L.length : Int) := by omega
      have hk60 : k < 60 := by omega
      have HLk := Lib.hid (HL.out k)
      have hsk := hsl.out k
      have BCk := Lib.hid (fun w L h hm => BC.out w L h hm k hk60)
      have HNk := Lib.hid (fun w L h h1 h2 => HN.out w L h h1 h2 ((k : Int) + 1))
      clear HL hsl BC HN
      generalize bal S.P 1 ((k : Int) + 1) = bk at *
      generalize sinceOf ls nw ((k : Int) + 1) = sk at *
      generalize hnl : seeL ls nw S.P (k + 1) = nl at *
      generalize seeL ls nw S.P k = ol at *
      by_cases hb : bk = 0
      · rw [if_pos hb, List.append_nil] at HLk
        obtain rfl := HLk.out
        go_wp2_with (first | go_big_skip | (go_at_call 13; go_must ((with_reducible refine (OC.out _ _ HO (by intro e he; repeat (first | exact he | apply List.mem_cons_of_mem))).mono ?_); rintro e w ⟨rfl, hb⟩; replace HO := HO.call hb; clear hb)) | (go_at_call 14; go_must ((with_reducible refine (BCk.out _ _ HO (by intro e he; repeat (first | exact he | apply List.mem_cons_of_mem))).mono ?_); rintro e w ⟨rfl, hb⟩; replace HO := HO.call hb; clear hb)))
        go_roundw
        case rel => exact ⟨k + 1, by omega, by go_num, by rw [hnl]; exact HO⟩
        case measure => simp [intOf] <;> omega
      · rw [if_neg hb] at HLk
        obtain rfl := HLk.out
        have hll : (ol.map lineC).length + 1 ≤ 1000000 := by rw [List.length_map]; omega
        go_wp2_with (first | go_big_skip | (go_at_call 13; go_must ((with_reducible refine (OC.out _ _ HO (by intro e he; repeat (first | exact he | apply List.mem_cons_of_mem))).mono ?_); rintro e w ⟨rfl, hb⟩; replace HO := HO.call hb; clear hb)) | (go_at_call 14; go_must ((with_reducible refine (BCk.out _ _ HO (by intro e he; repeat (first | exact he | apply List.mem_cons_of_mem))).mono ?_); rintro e w ⟨rfl, hb⟩; replace HO := HO.call hb; clear hb)) | (go_at_call 34; go_must ((with_reducible refine (HNk.out _ _ HO (by repeat (first | exact List.mem_cons_self | apply List.mem_cons_of_mem)) (by repeat (first | exact List.mem_cons_self | apply List.mem_cons_of_mem))).mono ?_); rintro e w ⟨rfl, hb⟩; replace HO := HO.call hb; clear hb)) | (first | ((with_reducible apply wpList_lit1 HO); exact rfl; infer_instance; infer_instance; exact rfl; exact rfl; exact (by decide); exact rfl; clear HO; intro bl w HO; (simp only [Act.put, List.setIfInBounds_toArray, List.set_cons_succ, List.set_cons_zero])) | ((with_reducible apply wpList_lit1c HO); exact rfl; infer_instance; infer_instance; (first | (simp [Act.eval]; rfl) | exact rfl); exact rfl; exact rfl; clear HO; intro bl w HO; (simp only [Act.put, List.setIfInBounds_toArray, List.set_cons_succ, List.set_cons_zero]))) | ((with_reducible apply wpList_push1 HO); exact rfl; infer_instance; infer_instance; (first | (simp [Act.eval]; rfl) | exact rfl); exact rfl; intro _; (repeat (with_reducible (first | exact At.head _ | apply At.tail))); exact rfl; exact rfl; (first | omega | (simp; omega)); decide; exact rfl; clear HO; intro v2 w HO hv2; (simp only [Act.put, List.setIfInBounds_toArray, List.set_cons_succ, List.set_cons_zero])))
        go_roundw
        case rel => exact ⟨k + 1, by omega, by go_num, by rw [hnl, List.map_append]; exact HO⟩
        case measure => simp [intOf] <;> omega
    · have hk' : k = S.L.length := by omega
      have hkI : ¬ ((k : Int) + 1 ≤ (S.L.length : Int)) := by omega
      rw [hk'] at HO
      obtain ⟨⟨p9, c9, rfl⟩, -⟩ := HO.rowForm (.head _)
      rw [List.length_map] at HO
      generalize hnl : seeL ls nw S.P S.L.length = nl at *
      go_wp2_with (first | go_big_skip | (first | go_big_skip | ((with_reducible apply wpList_loadAll HO); exact rfl; exact rfl; (repeat (with_reducible (first | exact At.head _ | apply At.tail))); infer_instance; exact rfl; exact rfl; (simp only [Act.put, List.setIfInBounds_toArray, List.set_cons_succ, List.set_cons_zero])) | ((with_reducible apply wpList_loadOne HO); exact rfl; exact rfl; (repeat (with_reducible (first | exact At.head _ | apply At.tail))); exact rfl; infer_instance; exact rfl; (simp only [Act.put, List.setIfInBounds_toArray, List.set_cons_succ, List.set_cons_zero]))) | ((with_reducible apply wpList_storeOne HO); exact rfl; exact rfl; (first | (simp [Act.eval]; rfl) | exact rfl); exact rfl; (repeat (with_reducible (first | exact At.head _ | apply At.tail))); infer_instance; exact (by simp); (simp only [List.set_cons_succ, List.set_cons_zero]; rfl); exact rfl; clear HO; intro w HO; (simp only [Act.put])) | (go_at_call 13; go_must ((with_reducible refine (OC.out _ _ HO (by intro e he; repeat (first | exact he | apply List.mem_cons_of_mem))).mono ?_); rintro e w ⟨rfl, hb⟩; replace HO := HO.call hb; clear hb)))
      go_end0
      subst hnl
      subst hnw
      exact ⟨_, rfl, (HO.sub (by exact .cons_cons _ (.cons_cons _ (.cons _ (List.Sublist.refl _))))).perm (List.Perm.swap _ _ _)⟩
end Go.Proofs.YtibabfedpdoofaaDoor
namespace Go.Proofs.YtibabfedpdoofaaDoor
open Go.RowKit Go.Own Go.Maps

def oldStep (now least : Int) (s : Int × Int × Bool) (x : LineS) : Int × Int × Bool := if s.2.2 = true ∧ least ≤ now - x.s then (s.1 + 1, (addI s.2.1 x.a).1, (addI s.2.1 x.a).2) else s
def oldL (ls : List LineS) (now least : Int) : Int × Int × Bool := ls.foldl (oldStep now least) (0, 0, true)
def oldV (s : Int × Int × Bool) : Value := if s.2.2 = true then .tuple #[.int .i64 s.1, .int .i64 s.2.1, .bool true] else .tuple #[.int .i64 0, .int .i64 0, .bool false]
/-- Lines as an aging has them. -/
def LinesOk (now : Int) (ls : List LineS) : Prop := 0 ≤ now ∧ now ≤ 1099511627776 ∧ ∀ x ∈ ls, 0 ≤ x.s ∧ x.s ≤ 1099511627776 ∧ inI x.a = true
theorem oldStep_ok (now least : Int) {s : Int × Int × Bool} (x : LineS) (h : inI s.2.1 = true) : inI (oldStep now least s x).2.1 = true := by
  unfold oldStep
  split
  · show inI (addI _ _).1 = true
    unfold addI
    split
    · assumption
    · rfl
  · exact h
theorem oldFold_ok (now least : Int) : ∀ (ls : List LineS) {s : Int × Int × Bool}, inI s.2.1 = true → inI (ls.foldl (oldStep now least) s).2.1 = true
  | [], _, h => h
  | x :: l, _, h => oldFold_ok now least l (oldStep_ok now least x h)
theorem oldFold_many (now least : Int) : ∀ (ls : List LineS) {s : Int × Int × Bool}, 0 ≤ s.1 → 0 ≤ (ls.foldl (oldStep now least) s).1 ∧ (ls.foldl (oldStep now least) s).1 ≤ s.1 + ls.length
  | [], _, h => ⟨h, by simp⟩
  | x :: l, s, h => by
    have h1 : 0 ≤ (oldStep now least s x).1 ∧ (oldStep now least s x).1 ≤ s.1 + 1 := by
      unfold oldStep
      split
      · exact ⟨by show 0 ≤ s.1 + 1; omega, Int.le_refl _⟩
      · omega
    have := oldFold_many now least l h1.1
    simp only [List.foldl_cons, List.length_cons]
    omega

set_option maxHeartbeats 16000000 in
set_option maxRecDepth 100000 in
theorem agOld_any {W : World} {g : Nat} {now : Int} {v : Value} {ls : List LineS} (h : AgAt W g now v ls) (hk : LinesOk now ls) (least : Int) (hl : ls.length ≤ 100000) : Calls Tryd.prog 23 #[.pointer (some ⟨g, 0, none⟩), .int .i64 least] W fun e w' => e = .returned (oldV (oldL ls now least)) ∧ Below W.heap.size W w' := by
  have HO := Own.start W
  obtain ⟨p, c, hv, hmx⟩ := h.row.slice
  rw [List.length_map] at hv hmx
  have HR := Lib.hid h.row
  have N := fun w' (hb : Below W.heap.size W w') => agNone_any (b := true) (h.below hb).box
  have h1 := old_cell h.box 1 rfl
  have h2 := old_cell h.box 2 rfl
  have hlt := old_lt h.box
  have hmx' : (ls.length : Int) ≤ 100000 := by omega
  subst hv
  clear h
  generalize hg : oldL ls now least = g0
  replace hg := Lib.hid hg
  go_enter Tryd.func23, Tryd.ntmps23
  go_wp2_with (first | go_big_skip | ((with_reducible apply wpList_loadOld1 HO); exact rfl; exact rfl; exact hlt; exact h1; infer_instance; exact rfl; (simp only [Act.put, List.setIfInBounds_toArray, List.set_cons_succ, List.set_cons_zero])) | ((with_reducible apply wpList_loadOld1 HO); exact rfl; exact rfl; exact hlt; exact h2; infer_instance; exact rfl; (simp only [Act.put, List.setIfInBounds_toArray, List.set_cons_succ, List.set_cons_zero])) | (go_at_call 33; go_must ((with_reducible refine (N _ HO.grown).mono ?_); rintro e w ⟨rfl, hb⟩; replace HO := HO.call hb; clear hb)))
  have HS := Lib.hid (fun (j : Nat) (hj : j < ls.length) => show (ls.take (j + 1)).foldl (oldStep now least) (0, 0, true) = oldStep now least ((ls.take j).foldl (oldStep now least) (0, 0, true)) ls[j] from by rw [List.take_succ_eq_append_getElem hj, List.foldl_append]; rfl)
  have HI := Lib.hid (fun (j : Nat) => oldFold_ok now least (ls.take j) (s := (0, 0, true)) rfl)
  have HM := Lib.hid (fun (j : Nat) => oldFold_many now least (ls.take j) (s := (0, 0, true)) (Int.le_refl _))
  obtain ⟨k0, k1, k2⟩ := hk
  replace k2 := Lib.hid k2
  go_loopw [4, 5, 6, 16] (fun m n ok iv wr => ∃ (j : Nat) (s : Int × Int × Bool), j ≤ ls.length ∧ s = (ls.take j).foldl (oldStep now least) (0, 0, true) ∧ m = .int .i64 s.1 ∧ n = .int .i64 s.2.1 ∧ ok = .bool s.2.2 ∧ iv = .int .i64 (j : Int) ∧ Own W wr []) (fun _ _ _ iv _ => ls.length - (intOf iv).toNat)
  case atStart => exact ⟨0, _, by omega, rfl, rfl, rfl, rfl, rfl, HO⟩
  case round =>
    clear HO
    obtain ⟨j, s, hj, hs, rfl, rfl, rfl, rfl, HO⟩ := hrel
    by_cases hjl : j < ls.length
    · have hjI : (j : Int) < (ls.length : Int) := by omega
      obtain ⟨b, rfl, hst⟩ := oldAt HR.out rfl hjl
      have HSj := HS.out j hjl
      have HIj := HI.out j
      have HMj := HM.out j
      have k2j := k2.out _ (List.getElem_mem hjl)
      rw [← hs] at HSj HIj HMj
      have hjl2 : (ls.take j).length ≤ j := by simp; omega
      clear hs
      obtain ⟨m, n, ok⟩ := s
      generalize ls[j] = y at *
      obtain ⟨yo, ys, ya⟩ := y
      unfold lineC at hst
      replace hst := Lib.hid hst
      rw [show oldStep now least (m, n, ok) ⟨yo, ys, ya⟩ = if ok = true ∧ least ≤ now - ys then (m + 1, (addI n ya).1, (addI n ya).2) else (m, n, ok) from rfl] at HSj
      simp only at HIj HMj k2j ⊢
      have AD := fun w => mAdd_any HIj k2j.2.2 w
      replace HSj := Lib.hid HSj
      cases ok with
      | false =>
        rw [if_neg (by simp)] at HSj
        go_upto_region 7 with (first | go_big_skip | (first | go_big_skip | ((with_reducible apply wpList_loadAll HO); exact rfl; exact rfl; (repeat (with_reducible (first | exact At.head _ | apply At.tail))); infer_instance; exact rfl; exact rfl; (simp only [Act.put, List.setIfInBounds_toArray, List.set_cons_succ, List.set_cons_zero])) | ((with_reducible apply wpList_loadOne HO); exact rfl; exact rfl; (repeat (with_reducible (first | exact At.head _ | apply At.tail))); exact rfl; infer_instance; exact rfl; (simp only [Act.put, List.setIfInBounds_toArray, List.set_cons_succ, List.set_cons_zero]))) | ((with_reducible apply wpList_loadAt HO); exact rfl; exact rfl; exact (fun w' h1 => hst.out w' h1.grown); infer_instance; exact rfl; exact rfl; (simp only [Act.put, List.setIfInBounds_toArray, List.set_cons_succ, List.set_cons_zero])) | (first | ((with_reducible apply wpList_boxAgg _ HO rfl); exact rfl; exact rfl; exact rfl; clear HO; intro b1 w HO; (simp only [Act.put, List.setIfInBounds_toArray, List.set_cons_succ, List.set_cons_zero])) | ((with_reducible apply wpList_allocAgg _ HO rfl); exact rfl; infer_instance; exact rfl; clear HO; intro b1 w HO; (simp only [Act.put, List.setIfInBounds_toArray, List.set_cons_succ, List.set_cons_zero]))) | ((with_reducible apply wpList_storeAll HO); exact rfl; exact rfl; exact rfl; (repeat (with_reducible (first | exact At.head _ | apply At.tail))); infer_instance; exact rfl; exact rfl; exact rfl; exact rfl; clear HO; intro w HO; (simp only [Act.put])))
        refine region_own HO (by kernel_rfl) (by kernel_rfl) ?_
        clear HO
        intro F HF
        repeat (first | (first | (first | go_big_quiet_skip | ((with_reducible apply wpQuiet_loadAll HF); exact rfl; exact rfl; (repeat (with_reducible (first | exact At.head _ | apply At.tail))); infer_instance; exact rfl; exact rfl; (simp only [Act.put, List.setIfInBounds_toArray, List.set_cons_succ, List.set_cons_zero])) | ((with_reducible apply wpQuiet_loadOne HF); exact rfl; exact rfl; (repeat (with_reducible (first | exact At.head _ | apply At.tail))); exact rfl; infer_instance; exact rfl; (simp only [Act.put, List.setIfInBounds_toArray, List.set_cons_succ, List.set_cons_zero])) | ((with_reducible apply wpQuiet_loadPart HF); exact rfl; exact rfl; (repeat (with_reducible (first | exact At.head _ | apply At.tail))); infer_instance; exact (Nat.le_of_ble_eq_true rfl); (simp only [List.drop_succ_cons, List.drop_zero, List.take_succ_cons, List.take_zero]; rfl); exact rfl; (simp only [Act.put, List.setIfInBounds_toArray, List.set_cons_succ, List.set_cons_zero]))) | ((with_reducible apply wpQuiet_loadOld1 HF); exact rfl; exact rfl; exact hlt; exact h1; infer_instance; exact rfl; (simp only [Act.put, List.setIfInBounds_toArray, List.set_cons_succ, List.set_cons_zero]))) | go_big_quiet_step (fail))
        refine wpQuiet_nil ?_
        intro x
        have HO := HF.own x
        clear HF
        generalize F x = w at *
        clear x F
        go_wp2_with fail
        replace HO := HO.tail
        go_roundw
        case rel => exact ⟨j + 1, _, by omega, rfl, by rw [HSj.out], by rw [HSj.out], by rw [HSj.out], by go_num, HO⟩
        case measure => simp [intOf] <;> omega
      | true =>
        by_cases hz : least ≤ now - ys
        · rw [if_pos ⟨rfl, hz⟩] at HSj
          go_upto_region 7 with (first | go_big_skip | (first | go_big_skip | ((with_reducible apply wpList_loadAll HO); exact rfl; exact rfl; (repeat (with_reducible (first | exact At.head _ | apply At.tail))); infer_instance; exact rfl; exact rfl; (simp only [Act.put, List.setIfInBounds_toArray, List.set_cons_succ, List.set_cons_zero])) | ((with_reducible apply wpList_loadOne HO); exact rfl; exact rfl; (repeat (with_reducible (first | exact At.head _ | apply At.tail))); exact rfl; infer_instance; exact rfl; (simp only [Act.put, List.setIfInBounds_toArray, List.set_cons_succ, List.set_cons_zero]))) | ((with_reducible apply wpList_loadAt HO); exact rfl; exact rfl; exact (fun w' h1 => hst.out w' h1.grown); infer_instance; exact rfl; exact rfl; (simp only [Act.put, List.setIfInBounds_toArray, List.set_cons_succ, List.set_cons_zero])) | (first | ((with_reducible apply wpList_boxAgg _ HO rfl); exact rfl; exact rfl; exact rfl; clear HO; intro b1 w HO; (simp only [Act.put, List.setIfInBounds_toArray, List.set_cons_succ, List.set_cons_zero])) | ((with_reducible apply wpList_allocAgg _ HO rfl); exact rfl; infer_instance; exact rfl; clear HO; intro b1 w HO; (simp only [Act.put, List.setIfInBounds_toArray, List.set_cons_succ, List.set_cons_zero]))) | ((with_reducible apply wpList_storeAll HO); exact rfl; exact rfl; exact rfl; (repeat (with_reducible (first | exact At.head _ | apply At.tail))); infer_instance; exact rfl; exact rfl; exact rfl; exact rfl; clear HO; intro w HO; (simp only [Act.put])))
          refine region_own HO (by kernel_rfl) (by kernel_rfl) ?_
          clear HO
          intro F HF
          repeat (first | (first | (first | go_big_quiet_skip | ((with_reducible apply wpQuiet_loadAll HF); exact rfl; exact rfl; (repeat (with_reducible (first | exact At.head _ | apply At.tail))); infer_instance; exact rfl; exact rfl; (simp only [Act.put, List.setIfInBounds_toArray, List.set_cons_succ, List.set_cons_zero])) | ((with_reducible apply wpQuiet_loadOne HF); exact rfl; exact rfl; (repeat (with_reducible (first | exact At.head _ | apply At.tail))); exact rfl; infer_instance; exact rfl; (simp only [Act.put, List.setIfInBounds_toArray, List.set_cons_succ, List.set_cons_zero])) | ((with_reducible apply wpQuiet_loadPart HF); exact rfl; exact rfl; (repeat (with_reducible (first | exact At.head _ | apply At.tail))); infer_instance; exact (Nat.le_of_ble_eq_true rfl); (simp only [List.drop_succ_cons, List.drop_zero, List.take_succ_cons, List.take_zero]; rfl); exact rfl; (simp only [Act.put, List.setIfInBounds_toArray, List.set_cons_succ, List.set_cons_zero]))) | ((with_reducible apply wpQuiet_loadOld1 HF); exact rfl; exact rfl; exact hlt; exact h1; infer_instance; exact rfl; (simp only [Act.put, List.setIfInBounds_toArray, List.set_cons_succ, List.set_cons_zero]))) | go_big_quiet_step (fail))
          refine wpQuiet_nil ?_
          intro x
          have HO := HF.own x
          clear HF
          generalize F x = w at *
          clear x F
          go_wp2_with (first | go_big_skip | (first | go_big_skip | ((with_reducible apply wpList_loadAll HO); exact rfl; exact rfl; (repeat (with_reducible (first | exact At.head _ | apply At.tail))); infer_instance; exact rfl; exact rfl; (simp only [Act.put, List.setIfInBounds_toArray, List.set_cons_succ, List.set_cons_zero])) | ((with_reducible apply wpList_loadOne HO); exact rfl; exact rfl; (repeat (with_reducible (first | exact At.head _ | apply At.tail))); exact rfl; infer_instance; exact rfl; (simp only [Act.put, List.setIfInBounds_toArray, List.set_cons_succ, List.set_cons_zero]))) | (go_at_call 43; go_must ((with_reducible refine (AD _).mono ?_); rintro e w ⟨rfl, hb⟩; replace HO := HO.call hb; clear hb)))
          replace HO := HO.tail
          go_roundw
          case rel => exact ⟨j + 1, _, by omega, rfl, by rw [HSj.out], by rw [HSj.out], by rw [HSj.out], by go_num, HO⟩
          case measure => simp [intOf] <;> omega
        · rw [if_neg (fun h => hz h.2)] at HSj
          go_upto_region 7 with (first | go_big_skip | (first | go_big_skip | ((with_reducible apply wpList_loadAll HO); exact rfl; exact rfl; (repeat (with_reducible (first | exact At.head _ | apply At.tail))); infer_instance; exact rfl; exact rfl; (simp only [Act.put, List.setIfInBounds_toArray, List.set_cons_succ, List.set_cons_zero])) | ((with_reducible apply wpList_loadOne HO); exact rfl; exact rfl; (repeat (with_reducible (first | exact At.head _ | apply At.tail))); exact rfl; infer_instance; exact rfl; (simp only [Act.put, List.setIfInBounds_toArray, List.set_cons_succ, List.set_cons_zero]))) | ((with_reducible apply wpList_loadAt HO); exact rfl; exact rfl; exact (fun w' h1 => hst.out w' h1.grown); infer_instance; exact rfl; exact rfl; (simp only [Act.put, List.setIfInBounds_toArray, List.set_cons_succ, List.set_cons_zero])) | (first | ((with_reducible apply wpList_boxAgg _ HO rfl); exact rfl; exact rfl; exact rfl; clear HO; intro b1 w HO; (simp only [Act.put, List.setIfInBounds_toArray, List.set_cons_succ, List.set_cons_zero])) | ((with_reducible apply wpList_allocAgg _ HO rfl); exact rfl; infer_instance; exact rfl; clear HO; intro b1 w HO; (simp only [Act.put, List.setIfInBounds_toArray, List.set_cons_succ, List.set_cons_zero]))) | ((with_reducible apply wpList_storeAll HO); exact rfl; exact rfl; exact rfl; (repeat (with_reducible (first | exact At.head _ | apply At.tail))); infer_instance; exact rfl; exact rfl; exact rfl; exact rfl; clear HO; intro w HO; (simp only [Act.put])))
          refine region_own HO (by kernel_rfl) (by kernel_rfl) ?_
          clear HO
          intro F HF
          repeat (first | (first | (first | go_big_quiet_skip | ((with_reducible apply wpQuiet_loadAll HF); exact rfl; exact rfl; (repeat (with_reducible (first | exact At.head _ | apply At.tail))); infer_instance; exact rfl; exact rfl; (simp only [Act.put, List.setIfInBounds_toArray, List.set_cons_succ, List.set_cons_zero])) | ((with_reducible apply wpQuiet_loadOne HF); exact rfl; exact rfl; (repeat (with_reducible (first | exact At.head _ | apply At.tail))); exact rfl; infer_instance; exact rfl; (simp only [Act.put, List.setIfInBounds_toArray, List.set_cons_succ, List.set_cons_zero])) | ((with_reducible apply wpQuiet_loadPart HF); exact rfl; exact rfl; (repeat (with_reducible (first | exact At.head _ | apply At.tail))); infer_instance; exact (Nat.le_of_ble_eq_true rfl); (simp only [List.drop_succ_cons, List.drop_zero, List.take_succ_cons, List.take_zero]; rfl); exact rfl; (simp only [Act.put, List.setIfInBounds_toArray, List.set_cons_succ, List.set_cons_zero]))) | ((with_reducible apply wpQuiet_loadOld1 HF); exact rfl; exact rfl; exact hlt; exact h1; infer_instance; exact rfl; (simp only [Act.put, List.setIfInBounds_toArray, List.set_cons_succ, List.set_cons_zero]))) | go_big_quiet_step (fail))
          refine wpQuiet_nil ?_
          intro x
          have HO := HF.own x
          clear HF
          generalize F x = w at *
          clear x F
          go_wp2_with (first | go_big_skip | (first | go_big_skip | ((with_reducible apply wpList_loadAll HO); exact rfl; exact rfl; (repeat (with_reducible (first | exact At.head _ | apply At.tail))); infer_instance; exact rfl; exact rfl; (simp only [Act.put, List.setIfInBounds_toArray, List.set_cons_succ, List.set_cons_zero])) | ((with_reducible apply wpList_loadOne HO); exact rfl; exact rfl; (repeat (with_reducible (first | exact At.head _ | apply At.tail))); exact rfl; infer_instance; exact rfl; (simp only [Act.put, List.setIfInBounds_toArray, List.set_cons_succ, List.set_cons_zero]))) | (go_at_call 43; go_must ((with_reducible refine (AD _).mono ?_); rintro e w ⟨rfl, hb⟩; replace HO := HO.call hb; clear hb)))
          replace HO := HO.tail
          go_roundw
          case rel => exact ⟨j + 1, _, by omega, rfl, by rw [HSj.out], by rw [HSj.out], by rw [HSj.out], by go_num, HO⟩
          case measure => simp [intOf] <;> omega
    · obtain rfl : j = ls.length := by omega
      rw [List.take_length] at hs
      obtain rfl : g0 = s := by rw [hs]; exact hg.out.symm
      obtain ⟨m, n, ok⟩ := g0
      clear hs HS HI HM k2
      cases ok with
      | false =>
        go_wp2_with fail
        go_ret3
        exact ⟨rfl, HO.grown⟩
      | true =>
        go_wp2_with fail
        go_ret3
        exact ⟨rfl, HO.grown⟩

set_option maxHeartbeats 4000000 in
theorem agOldNo_any {w : World} {g : Nat} {cs : List Value} (h : w.heap[g]? = some (.cells (.bool false :: cs).toArray 69)) (least : Int) : Calls Tryd.prog 23 #[.pointer (some ⟨g, 0, none⟩), .int .i64 least] w fun e w' => e = .returned (.tuple #[.int .i64 0, .int .i64 0, .bool false]) ∧ Below w.heap.size w w' := by
  have HO := Own.start w
  have N := agNone_any (b := false) h
  go_enter Tryd.func23, Tryd.ntmps23
  go_wp2_with (first | go_big_skip | (go_at_call 33; go_must ((with_reducible refine (N).mono ?_); rintro e w ⟨rfl, hb⟩; replace HO := HO.call hb; clear hb)))
  go_ret3
  exact ⟨rfl, HO.grown⟩
set_option maxHeartbeats 4000000 in
theorem agOldNil_any (least : Int) (w : World) : Calls Tryd.prog 23 #[.pointer none, .int .i64 least] w fun e w' => e = .returned (.tuple #[.int .i64 0, .int .i64 0, .bool false]) ∧ Below w.heap.size w w' := by
  have HO := Own.start w
  have N := agNoneNil_any
  go_enter Tryd.func23, Tryd.ntmps23
  go_wp2_with (first | go_big_skip | (go_at_call 33; go_must ((with_reducible refine (N _).mono ?_); rintro e w ⟨rfl, hb⟩; replace HO := HO.call hb; clear hb)))
  go_ret3
  exact ⟨rfl, HO.grown⟩
set_option maxHeartbeats 4000000 in
theorem agCopyNo_any {w : World} {g : Nat} {cs : List Value} (h : w.heap[g]? = some (.cells (.bool false :: cs).toArray 69)) : Calls Tryd.prog 24 #[.pointer (some ⟨g, 0, none⟩)] w fun e w' => e = .returned (.pointer none) ∧ Below w.heap.size w w' := by
  have HO := Own.start w
  have N := agNone_any (b := false) h
  go_enter Tryd.func24, Tryd.ntmps24
  go_wp2_with (first | go_big_skip | (go_at_call 33; go_must ((with_reducible refine (N).mono ?_); rintro e w ⟨rfl, hb⟩; replace HO := HO.call hb; clear hb)))
  go_ret
  exact ⟨rfl, HO.grown⟩
set_option maxHeartbeats 4000000 in
theorem agCopyNil_any (w : World) : Calls Tryd.prog 24 #[.pointer none] w fun e w' => e = .returned (.pointer none) ∧ Below w.heap.size w w' := by
  have HO := Own.start w
  have N := agNoneNil_any
  go_enter Tryd.func24, Tryd.ntmps24
  go_wp2_with (first | go_big_skip | (go_at_call 33; go_must ((with_reducible refine (N _).mono ?_); rintro e w ⟨rfl, hb⟩; replace HO := HO.call hb; clear hb)))
  go_ret
  exact ⟨rfl, HO.grown⟩
set_option maxHeartbeats 4000000 in
theorem agSeeNo_any {w : World} {g : Nat} {cs : List Value} (h : w.heap[g]? = some (.cells (.bool false :: cs).toArray 69)) (t : Int) (v : Value) : Calls Tryd.prog 11 #[.pointer (some ⟨g, 0, none⟩), .int .i64 t, v] w fun e w' => e = .returned (.tuple #[]) ∧ Below w.heap.size w w' := by
  have HO := Own.start w
  have N := agNone_any (b := false) h
  go_enter Tryd.func11, Tryd.ntmps11
  go_wp2_with (first | go_big_skip | (go_at_call 33; go_must ((with_reducible refine (N).mono ?_); rintro e w ⟨rfl, hb⟩; replace HO := HO.call hb; clear hb)))
  refine bodyPost_ret (results_none rfl _ _ _) rfl ?_
  exact ⟨rfl, HO.grown⟩
set_option maxHeartbeats 4000000 in
theorem agSeeNil_any (t : Int) (v : Value) (w : World) : Calls Tryd.prog 11 #[.pointer none, .int .i64 t, v] w fun e w' => e = .returned (.tuple #[]) ∧ Below w.heap.size w w' := by
  have HO := Own.start w
  have N := agNoneNil_any
  go_enter Tryd.func11, Tryd.ntmps11
  go_wp2_with (first | go_big_skip | (go_at_call 33; go_must ((with_reducible refine (N _).mono ?_); rintro e w ⟨rfl, hb⟩; replace HO := HO.call hb; clear hb)))
  refine bodyPost_ret (results_none rfl _ _ _) rfl ?_
  exact ⟨rfl, HO.grown⟩

set_option maxHeartbeats 16000000 in
set_option maxRecDepth 100000 in
/-- A core that is none is looked at. -/
theorem agSeeC_any {W w : World} {M : List Ent} {g : Nat} {now : Int} {v : Value} {ls : List LineS} (t : Int) (HO : Own W w (agPs g now v ls ++ M)) :
    Calls Tryd.prog 11 #[.pointer (some ⟨g, 0, none⟩), .int .i64 t, .pointer none] w fun e w' => e = .returned (.tuple #[]) ∧ Own W w' (agPs g (seeN now t) (.slice none 0 0) [] ++ M) := by
  have N := fun (w : World) (L : List Ent) (h : Own W w L) (h1 : box g (.cells (agC now v).toArray 69) ∈ L) => agNone_any (b := true) (cs := [.int .i64 now, v]) (h.has _ h1)
  have OC := fun w => coOrdersNil_any w
  unfold agPs at HO
  simp only [List.cons_append, List.nil_append, agC] at HO N
  go_enter Tryd.func11, Tryd.ntmps11
  go_wp2_with (first | go_big_skip | (first | go_big_skip | ((with_reducible apply wpList_loadAll HO); exact rfl; exact rfl; (repeat (with_reducible (first | exact At.head _ | apply At.tail))); infer_instance; exact rfl; exact rfl; (simp only [Act.put, List.setIfInBounds_toArray, List.set_cons_succ, List.set_cons_zero])) | ((with_reducible apply wpList_loadOne HO); exact rfl; exact rfl; (repeat (with_reducible (first | exact At.head _ | apply At.tail))); exact rfl; infer_instance; exact rfl; (simp only [Act.put, List.setIfInBounds_toArray, List.set_cons_succ, List.set_cons_zero]))) | ((with_reducible apply wpList_storeOne HO); exact rfl; exact rfl; (first | (simp [Act.eval]; rfl) | exact rfl); exact rfl; (repeat (with_reducible (first | exact At.head _ | apply At.tail))); infer_instance; exact (by simp); (simp only [List.set_cons_succ, List.set_cons_zero]; rfl); exact rfl; clear HO; intro w HO; (simp only [Act.put])) | (first | ((with_reducible apply wpList_boxAgg _ HO rfl); exact rfl; exact rfl; exact rfl; clear HO; intro b1 w HO; (simp only [Act.put, List.setIfInBounds_toArray, List.set_cons_succ, List.set_cons_zero])) | ((with_reducible apply wpList_allocAgg _ HO rfl); exact rfl; infer_instance; exact rfl; clear HO; intro b1 w HO; (simp only [Act.put, List.setIfInBounds_toArray, List.set_cons_succ, List.set_cons_zero]))) | (go_at_call 33; go_must ((with_reducible refine (N _ _ HO (by repeat (first | exact List.mem_cons_self | apply List.mem_cons_of_mem))).mono ?_); rintro e w ⟨rfl, hb⟩; replace HO := HO.call hb; clear hb)))
  go_loopw [6, 7] (fun vl iv wr => vl = .slice none 0 0 ∧ iv = .int .i64 1 ∧ Own W wr (box g (.cells #[.bool true, .int .i64 (max now (min t 1099511627776)), v] 69) :: row 47 3 v (ls.map lineC) :: M)) (fun _ iv _ => 0)
  case atStart => exact ⟨rfl, rfl, HO⟩
  case round =>
    clear HO
    obtain ⟨rfl, rfl, HO⟩ := hrel
    go_wp2_with (first | go_big_skip | (first | go_big_skip | ((with_reducible apply wpList_loadAll HO); exact rfl; exact rfl; (repeat (with_reducible (first | exact At.head _ | apply At.tail))); infer_instance; exact rfl; exact rfl; (simp only [Act.put, List.setIfInBounds_toArray, List.set_cons_succ, List.set_cons_zero])) | ((with_reducible apply wpList_loadOne HO); exact rfl; exact rfl; (repeat (with_reducible (first | exact At.head _ | apply At.tail))); exact rfl; infer_instance; exact rfl; (simp only [Act.put, List.setIfInBounds_toArray, List.set_cons_succ, List.set_cons_zero]))) | ((with_reducible apply wpList_storeOne HO); exact rfl; exact rfl; (first | (simp [Act.eval]; rfl) | exact rfl); exact rfl; (repeat (with_reducible (first | exact At.head _ | apply At.tail))); infer_instance; exact (by simp); (simp only [List.set_cons_succ, List.set_cons_zero]; rfl); exact rfl; clear HO; intro w HO; (simp only [Act.put])) | (go_at_call 13; go_must ((with_reducible refine (OC _).mono ?_); rintro e w ⟨rfl, hb⟩; replace HO := HO.call hb; clear hb)))
    go_end0
    exact ⟨rfl, ((HO.sub (by exact .cons_cons _ (.cons _ (List.Sublist.refl _)))).nil 47 3).perm (List.Perm.swap _ _ _)⟩
end Go.Proofs.YtibabfedpdoofaaDoor
namespace Go.Proofs.YtibabfedpdoofaaDoor
open Go.RowKit Go.Own Go.Maps

theorem dec_no45 (u : Nat) : (45 : UInt8) ∉ Lib.decDigits u := fun h => by
  have := (dec_digit u 45 h).1
  revert this
  decide
theorem split45 : ∀ {a b c d : List UInt8}, (45 : UInt8) ∉ a → (45 : UInt8) ∉ c → a ++ 45 :: b = c ++ 45 :: d → a = c ∧ b = d
  | [], b, [], d, _, _, h => ⟨rfl, by simpa using h⟩
  | [], b, y :: c, d, _, h2, h => by
    simp only [List.nil_append, List.cons_append, List.cons.injEq] at h
    exact absurd (by rw [← h.1]; exact List.mem_cons_self) h2
  | x :: a, b, [], d, h1, _, h => by
    simp only [List.nil_append, List.cons_append, List.cons.injEq] at h
    exact absurd (by rw [h.1]; exact List.mem_cons_self) h1
  | x :: a, b, y :: c, d, h1, h2, h => by
    simp only [List.cons_append, List.cons.injEq] at h
    obtain ⟨h3, h4⟩ := split45 (fun h => h1 (List.mem_cons_of_mem _ h)) (fun h => h2 (List.mem_cons_of_mem _ h)) h.2
    exact ⟨by rw [h.1, h3], h4⟩
theorem bytes_ext {a b : ByteArray} (h : a = b) : a.data.toList = b.data.toList := by rw [h]
theorem putK_list (o d : Int) : (putK o d).data.toList = Lib.itoa o ++ 45 :: deedL d := by simp [putK]
theorem sidK_list (q o : Int) : (sidK q o).data.toList = 115 :: (Lib.itoa q ++ 45 :: Lib.itoa o) := by simp [sidK]
theorem itoa_nat {o : Int} (h : 0 ≤ o) : Lib.itoa o = Lib.decDigits o.toNat := by
  have := Lib.itoa_nonneg o.toNat
  rwa [Int.toNat_of_nonneg h] at this
theorem deedL_inj {d d' : Int} (h0 : 0 ≤ d) (h5 : d ≤ 5) (h0' : 0 ≤ d') (h5' : d' ≤ 5) (h : deedL d = deedL d') : d = d' := by
  have h1 := deedsF_word h0 h5
  rw [h, deedsF_word h0' h5'] at h1
  simpa using h1.symm
theorem putK_inj {o d o' d' : Int} (h1 : 0 ≤ o) (h1' : 0 ≤ o') (h0 : 0 ≤ d) (h5 : d ≤ 5) (h0' : 0 ≤ d') (h5' : d' ≤ 5) (h : putK o d = putK o' d') : o = o' ∧ d = d' := by
  have h2 := bytes_ext h
  rw [putK_list, putK_list, itoa_nat h1, itoa_nat h1'] at h2
  obtain ⟨h3, h4⟩ := split45 (dec_no45 _) (dec_no45 _) h2
  have := dec_inj h3
  exact ⟨by omega, deedL_inj h0 h5 h0' h5' h4⟩
theorem sidK_inj {q o q' o' : Int} (h1 : 0 ≤ q) (h1' : 0 ≤ q') (h2 : 0 ≤ o) (h2' : 0 ≤ o') (h : sidK q o = sidK q' o') : q = q' ∧ o = o' := by
  have h3 := bytes_ext h
  rw [sidK_list, sidK_list, itoa_nat h1, itoa_nat h1', itoa_nat h2, itoa_nat h2', List.cons.injEq] at h3
  obtain ⟨h4, h5⟩ := split45 (dec_no45 _) (dec_no45 _) h3.2
  have h6 := dec_inj h4
  have h7 := dec_inj h5
  exact ⟨by omega, by omega⟩
theorem put_ne_sid {o d q o' : Int} (h1 : 0 ≤ o) : putK o d ≠ sidK q o' := fun h => by
  have h2 := bytes_ext h
  rw [putK_list, sidK_list, itoa_nat h1] at h2
  rcases hd : Lib.decDigits o.toNat with _ | ⟨x, l⟩
  · exact dec_ne _ hd
  · rw [hd, List.cons_append, List.cons.injEq] at h2
    have := (dec_digit o.toNat x (by rw [hd]; exact List.mem_cons_self)).2
    rw [h2.1] at this
    revert this
    decide
theorem putK_ne (o d : Int) : (putK o d).size ≠ 0 := by
  unfold putK
  rw [ByteArray.size_append, ByteArray.size_append]
  show _ + 1 + _ ≠ 0
  omega
theorem sidK_ne (q o : Int) : (sidK q o).size ≠ 0 := by
  unfold sidK
  rw [ByteArray.size_append, ByteArray.size_append, ByteArray.size_append]
  show 1 + _ + 1 + _ ≠ 0
  omega
/-- A small posting of an id of its own is posted. -/
theorem delta_small {p : Pst} {b : Int} (h : mayPst p = true) (h2 : p.a ≤ b) (hb : 0 ≤ b) (n o : Int) : -b ≤ delta p n o ∧ delta p n o ≤ b := by
  have := mayPst_iff.1 h
  unfold delta
  repeat' split
  all_goals omega
theorem bal_small {b : Int} (hb : 0 ≤ b) (n o : Int) : ∀ {l : List Pst}, (∀ p ∈ l, mayPst p = true ∧ p.a ≤ b) → -(b * (l.length : Int)) ≤ bal l n o ∧ bal l n o ≤ b * (l.length : Int)
  | [], _ => by simp [bal]
  | p :: l, h => by
    have h1 := bal_small hb n o (fun q hq => h q (List.mem_cons_of_mem _ hq))
    have h2 := delta_small (h p List.mem_cons_self).1 (h p List.mem_cons_self).2 hb n o
    simp only [bal, List.length_cons]
    rw [show ((l.length + 1 : Nat) : Int) = (l.length : Int) + 1 by omega, Int.mul_add, Int.mul_one]
    omega
theorem post_new {P : List Pst} {p : Pst} (h : ∀ q ∈ P, mayPst q = true ∧ q.a ≤ 2199023255552) (hl : P.length ≤ 100000) (hm : mayPst p = true) (ha : p.a ≤ 2199023255552) (hn : ∀ q ∈ P, q.id ≠ p.id) : postL P p = P ++ [p] := by
  unfold postL
  rw [if_pos]
  have h1 : findP P p.id = none := by
    unfold findP
    rw [List.find?_eq_none]
    intro q hq
    simpa using hn q hq
  have hx := mayPst_iff.1 hm
  have hb := fun n o => bal_small (b := 2199023255552) (by decide) n o h
  have e : (2199023255552 : Int) * (P.length : Int) ≤ 219902325555200000 := by omega
  rw [hm, h1]
  simp only [fitsPst, Bool.and_eq_true, inI_iff, Option.isNone_none, true_and]
  have b1 := hb p.d 0
  have b2 := hb p.c 0
  have b3 := hb p.d p.o
  have b4 := hb p.c p.o
  omega
end Go.Proofs.YtibabfedpdoofaaDoor
namespace Go.Proofs.YtibabfedpdoofaaDoor
open Go.RowKit Go.Own Go.Maps

def chE1 : EntS := ⟨1, 1, [97], [120], 1, 500, 0, 0, 0, 0, 0, []⟩
def chE2 : EntS := ⟨3, 0, [], [], 0, 0, 1, 0, 1, 0, 0, []⟩
def chE3 : EntS := ⟨3, 0, [], [], 0, 0, 1, 1, 1, 0, 0, []⟩
def chO : OrdS := ⟨1, [97], [120], 1, 500⟩
theorem applyS_reply {S : CoS} {A : InS} {x : EntS} (h : x.k = 3) : applyS S A x = replyS S x.o x.d x.c := by unfold applyS; rw [if_neg (by omega), if_neg (by omega), if_pos h]
theorem ch_one : applyS ⟨[], []⟩ zeroI chE1 = ⟨[(chO, ⟨1, 0, 0, 0, 0, 0, false⟩)], []⟩ := by
  have h : placeE [] chO = 0 := by decide +kernel
  show (⟨placeL [] chO, []⟩ : CoS) = _
  unfold placeL
  rw [h]
  rfl
theorem ch_two : applyS ⟨[(chO, ⟨1, 0, 0, 0, 0, 0, false⟩)], []⟩ zeroI chE2 = ⟨[(chO, ⟨2, 1, 0, 0, 0, 0, false⟩)], []⟩ := by
  rw [applyS_reply rfl]
  show replyS _ 1 0 1 = _
  unfold replyS
  rw [show ordAt [(chO, (⟨1, 0, 0, 0, 0, 0, false⟩ : D6))] 1 = some (chO, ⟨1, 0, 0, 0, 0, 0, false⟩) from rfl]
  dsimp only
  rw [show replyOf ⟨1, 0, 0, 0, 0, 0, false⟩ 0 1 = some ⟨2, 1, 0, 0, 0, 0, false⟩ by decide +kernel]
  dsimp only
  unfold replyP
  rw [if_neg (by decide +kernel), if_neg (by decide +kernel)]
  rfl
def chP : Pst := ⟨putK 1 1, 1, 1, 0, 500⟩
theorem chP_may : mayPst chP = true := mayPst_iff.2 ⟨putK_ne 1 1, by decide, by decide, by decide, by decide, by decide, by decide, by decide⟩
theorem ch_three : applyS ⟨[(chO, ⟨2, 1, 0, 0, 0, 0, false⟩)], []⟩ zeroI chE3 = ⟨[(chO, ⟨2, 2, 1, 0, 0, 0, false⟩)], [chP]⟩ := by
  rw [applyS_reply rfl]
  show replyS _ 1 1 1 = _
  unfold replyS
  rw [show ordAt [(chO, (⟨2, 1, 0, 0, 0, 0, false⟩ : D6))] 1 = some (chO, ⟨2, 1, 0, 0, 0, 0, false⟩) from rfl]
  dsimp only
  rw [show replyOf ⟨2, 1, 0, 0, 0, 0, false⟩ 1 1 = some ⟨2, 2, 1, 0, 0, 0, false⟩ by decide +kernel]
  dsimp only
  rw [show netS chO ⟨2, 2, 1, 0, 0, 0, false⟩ - netS chO ⟨2, 1, 0, 0, 0, 0, false⟩ = 500 by decide +kernel]
  unfold replyP
  rw [if_pos (by decide)]
  rw [show postL [] ⟨putK 1 1, 1, 1, 0, 500⟩ = [] ++ [chP] from post_new (p := chP) (by simp) (by simp) chP_may (by decide) (by simp)]
  rfl
def chS : CoS := ⟨[(chO, ⟨2, 2, 1, 0, 0, 0, false⟩)], [chP]⟩
def chI : InS := ⟨0, 1, [⟨1, 1, 1, 500, 0⟩], 0, 0, [], 0, 0, []⟩
def chE4 : EntS := ⟨4, 0, [], [], 0, 0, 0, 0, 0, 0, 1, [⟨1, 1, 1, 500, 0⟩]⟩
def chQ : Pst := ⟨sidK 1 1, 1, 2, 1, 500⟩
theorem chQ_may : mayPst chQ = true := mayPst_iff.2 ⟨sidK_ne 1 1, by decide, by decide, by decide, by decide, by decide, by decide, by decide⟩
theorem stmtP_one {P : List Pst} {f : Int → Int} {q : Int} (h : ∀ k : Nat, f ((k : Int) + 2) = 0) : ∀ k, stmtP P f q (k + 1) = stmtP P f q 1
  | 0 => rfl
  | k + 1 => by
    rw [stmtP, show ((k + 1 : Nat) : Int) + 1 = (k : Int) + 2 by omega, if_pos (h k)]
    exact stmtP_one h k
theorem ch_by (k : Nat) : byI zeroI chI ((k : Int) + 2) = 0 := by
  have h : ∀ (A : InS) d, A.r0 = [⟨1, 1, 1, 500, 0⟩] ∨ A.r0 = [] → partyOf d = 0 → rowOf A ((k : Int) + 2) d = none := fun A d hA hd => by
    unfold rowOf
    split
    · rw [hd]
      show (A.r0).find? _ = none
      rw [List.find?_eq_none]
      intro r hr
      rcases hA with h | h
      · rw [h] at hr
        obtain rfl := List.mem_singleton.1 hr
        simp
        omega
      · rw [h] at hr; cases hr
    · rfl
  unfold byI netI
  rw [h chI 1 (.inl rfl) rfl, h chI 4 (.inl rfl) rfl, h zeroI 1 (.inr rfl) rfl, h zeroI 4 (.inr rfl) rfl]
  rfl
theorem ch_four : applyS chS zeroI chE4 = ⟨chS.L, [chP, chQ]⟩ ∧ applyI zeroI chE4 = chI ∧ applyE chS zeroI chE4 = 0 := by
  have h1 : accE zeroI 0 1 [⟨1, 1, 1, 500, 0⟩] = 0 := by decide +kernel
  refine ⟨?_, ?_, h1⟩
  · show (if accE zeroI 0 1 [⟨1, 1, 1, 500, 0⟩] = 0 then ({ chS with P := stmtP chS.P (byI zeroI chI) 1 60 } : CoS) else chS) = _
    rw [if_pos h1, stmtP_one ch_by 59]
    have h2 : byI zeroI chI 1 = 500 := by decide +kernel
    show (⟨chS.L, if byI zeroI chI 1 = 0 then [chP] else postL [chP] (stPst 1 1 (byI zeroI chI 1))⟩ : CoS) = _
    rw [h2, if_neg (by decide)]
    rw [show postL [chP] (stPst 1 1 500) = [chP] ++ [chQ] from post_new (p := chQ) (fun q hq => by obtain rfl := List.mem_singleton.1 hq; exact ⟨chP_may, by decide⟩) (by simp) chQ_may (by decide) (fun q hq => by obtain rfl := List.mem_singleton.1 hq; exact put_ne_sid (by decide))]
    rfl
  · show (if (4 : Int) = 4 ∧ accE zeroI 0 1 [⟨1, 1, 1, 500, 0⟩] = 0 then _ else _) = _
    rw [if_pos ⟨rfl, h1⟩]
    rfl
theorem ch_ok : CoOk chS := by
  have h := coreOf_ok [chE1, chE2, chE3] 3 (by decide)
  have h1 : coreOf ([chE1, chE2, chE3].take 3) = (chS, zeroI) := by
    show (applyS (applyS (applyS ⟨[], []⟩ zeroI chE1) zeroI chE2) zeroI chE3, zeroI) = _
    rw [ch_one, ch_two, ch_three]
    rfl
  rw [h1] at h
  exact h.1

set_option maxHeartbeats 16000000 in
set_option maxRecDepth 100000 in
theorem charged_any (W : World) (hL : LaidE W) : Calls Tryd.prog 26 #[] W fun e w' => ∃ a i, e = .returned (.pointer (some ⟨a.c, 0, none⟩)) ∧ Own W w' (coPs a chS i zeroI ++ (inPs i zeroI ++ [])) := by
  have HO := Own.start W
  have A1 := fun (w : World) (a : CoA) (i : InA) (h : Own W w (coPs a ⟨[], []⟩ i zeroI ++ (inPs i zeroI ++ []))) => coApply_any chE1 h ⟨.old (nilRows W) _, by decide, by decide, rfl⟩ zeroI_ok coNew_ok (by decide) hL
  have A2 := fun (w : World) (a : CoA) (i : InA) (h : Own W w (coPs a ⟨[(chO, ⟨1, 0, 0, 0, 0, 0, false⟩)], []⟩ i zeroI ++ (inPs i zeroI ++ []))) => coApply_any chE2 h ⟨.old (nilRows W) _, by decide, by decide, rfl⟩ zeroI_ok ⟨by decide, by decide +kernel, .nil⟩ (by decide) hL
  have A3 := fun (w : World) (a : CoA) (i : InA) (h : Own W w (coPs a ⟨[(chO, ⟨2, 1, 0, 0, 0, 0, false⟩)], []⟩ i zeroI ++ (inPs i zeroI ++ []))) => coApply_any chE3 h ⟨.old (nilRows W) _, by decide, by decide, rfl⟩ zeroI_ok ⟨by decide, by decide +kernel, .nil⟩ (by decide) hL
  rw [ch_one] at A1
  rw [ch_two] at A2
  rw [ch_three] at A3
  rw [show applyI zeroI chE1 = zeroI from rfl] at A1
  rw [show applyI zeroI chE2 = zeroI from rfl] at A2
  rw [show applyI zeroI chE3 = zeroI from rfl] at A3
  simp only [chE1] at A1
  simp only [chE2] at A2
  simp only [chE3] at A3
  go_enter Tryd.func26, Tryd.ntmps26
  go_wp2_with (first | go_big_skip | (go_at_call 9; go_must ((with_reducible refine (coNew_any _).mono ?_); rintro e w ⟨a, rfl, HO1⟩; replace HO := HO.lift HO1; clear HO1; rw [List.append_assoc] at HO)) | (go_at_call 10; first | ((with_reducible refine (A1 _ _ _ HO).mono ?_); clear HO; rintro e w ⟨rfl, u', v', i', -, HO⟩) | ((with_reducible refine (A2 _ _ _ HO).mono ?_); clear HO; rintro e w ⟨rfl, u', v', i', -, HO⟩) | ((with_reducible refine (A3 _ _ _ HO).mono ?_); clear HO; rintro e w ⟨rfl, u', v', i', -, HO⟩)))
  go_ret
  exact ⟨{ a with u := u', v := v' }, i', rfl, HO⟩
end Go.Proofs.YtibabfedpdoofaaDoor
namespace Go.Proofs.YtibabfedpdoofaaDoor
open Go.RowKit Go.Own Go.Maps

theorem run_line_neq (p q : LineS) (w : World) : (binOp .neq 47 (.agg #[.int .i64 p.o, .int .i64 p.s, .int .i64 p.a]) (.agg #[.int .i64 q.o, .int .i64 q.s, .int .i64 q.a])).run Tryd.prog w = .ok (.bool (!decide (p = q))) w := by
  obtain ⟨a, b, c⟩ := p
  obtain ⟨a', b', c'⟩ := q
  go_simp
  (repeat' split) <;> simp_all
theorem ag3 : seeL [] (seeN 0 3) chS.P chS.L.length = [⟨1, 3, 500⟩] := by decide +kernel
theorem ag7 : seeL [⟨1, 3, 500⟩] (seeN (seeN 0 3) 7) chS.P chS.L.length = [⟨1, 3, 500⟩] := by decide +kernel
theorem ag8 : seeL [⟨1, 3, 500⟩] (seeN 7 8) [chP, chQ] chS.L.length = [] := by decide +kernel
theorem ao4 : oldV (oldL [⟨1, 3, 500⟩] 7 4) = .tuple #[.int .i64 1, .int .i64 500, .bool true] := by
  rw [show oldL [⟨1, 3, 500⟩] 7 4 = (1, 500, true) by decide +kernel]
  rfl
theorem ao5 : oldV (oldL [⟨1, 3, 500⟩] 7 5) = .tuple #[.int .i64 0, .int .i64 0, .bool true] := by
  rw [show oldL [⟨1, 3, 500⟩] 7 5 = (0, 0, true) by decide +kernel]
  rfl

set_option maxHeartbeats 16000000 in
set_option maxRecDepth 100000 in
theorem aged_any (W : World) (hL : LaidE W) : Calls Tryd.prog 7 #[] W fun e w' => e = .returned (.bool true) ∧ Below W.heap.size W w' := by
  have HO := Own.start W
  have HC : ∀ (a : CoA) (S : CoS) (i : InA) (A : InS) (w' : World) (L' : List Ent), Own W w' L' → (∀ e ∈ coPs a S i A ++ (inPs i A ++ []), e ∈ L') → CoAt w' a S i A := fun a S i A w' L' h hm => Own.coAt h (hm _ (.head _)) (hm _ (.tail _ (.head _))) (hm _ (.tail _ (.tail _ (.head _))))
  have S3 := fun (a : CoA) (i : InA) (w : World) (g : Nat) (v : Value) (h : Own W w (agPs g 0 v [] ++ (coPs a chS i zeroI ++ (inPs i zeroI ++ [])))) => agSee_any 3 h (HC a chS i zeroI) (by decide)
  have S7 := fun (a : CoA) (i : InA) (w : World) (g : Nat) (v : Value) (h : Own W w (agPs g (seeN 0 3) v [⟨1, 3, 500⟩] ++ (coPs a chS i zeroI ++ (inPs i zeroI ++ [])))) => agSee_any 7 h (HC a chS i zeroI) (by decide)
  have S8 := fun (a : CoA) (i : InA) (w : World) (g : Nat) (v : Value) (L : List Ent) (h : Own W w (agPs g 7 v [⟨1, 3, 500⟩] ++ (coPs a ⟨chS.L, [chP, chQ]⟩ i chI ++ (inPs i chI ++ [])))) => agSee_any 8 h (HC a ⟨chS.L, [chP, chQ]⟩ i chI) (by decide)
  rw [ag3] at S3
  rw [ag7] at S7
  rw [show seeN (seeN 0 3) 7 = 7 by decide +kernel] at S7
  have LK : LinesOk 7 [⟨1, 3, 500⟩] := ⟨by decide, by decide, by decide +kernel⟩
  have O4 := fun (g : Nat) (v : Value) (w : World) (h : AgAt w g 7 v [⟨1, 3, 500⟩]) => agOld_any h LK 4 (by decide)
  have O5 := fun (g : Nat) (v : Value) (w : World) (h : AgAt w g 7 v [⟨1, 3, 500⟩]) => agOld_any h LK 5 (by decide)
  rw [ao4] at O4
  rw [ao5] at O5
  go_enter Tryd.func7, Tryd.ntmps7
  go_upto_region 5 with (first | go_big_skip | (go_at_call 8; go_must ((with_reducible refine (agNew_any _).mono ?_); rintro e w ⟨g, rfl, HO1⟩; replace HO := HO.lift HO1; clear HO1; rw [List.append_nil] at HO)) | (go_at_call 26; go_must ((with_reducible refine (charged_any _ (hL.below HO.grown)).mono ?_); rintro e w ⟨a, i, rfl, HO1⟩; replace HO := (HO.lift HO1).perm List.perm_append_comm; clear HO1)) | (go_at_call 11; first | ((with_reducible refine (S3 _ _ _ _ _ HO).mono ?_); clear HO; rintro e w ⟨v', rfl, HO⟩) | ((with_reducible refine (S7 _ _ _ _ _ HO).mono ?_); clear HO; rintro e w ⟨v', rfl, HO⟩)) | (go_at_call 12; go_must ((with_reducible refine (agLines_any (g := g) (now := 7) (v := v') (ls := [⟨1, 3, 500⟩]) (Own.agAt HO (List.Mem.head _) (List.Mem.tail _ (List.Mem.head _))) (rowNil_of (HO.has _ (List.Mem.tail _ (List.Mem.head _)))) (by decide)).mono ?_); rintro e w ⟨v9, rfl, HO1⟩; replace HO := HO.lift HO1; clear HO1)))
  obtain ⟨q9, c9, hv9, -, -, -⟩ := (isL_of_owns (lineC_len _) (HO.has _ (List.Mem.head _))).at (by decide)
  subst hv9
  simp only [List.map_cons, List.map_nil, List.length_cons, List.length_nil, lineC] at HO ⊢
  have AG := fun (w : World) (L : List Ent) (h : Own W w L) h1 h2 => Own.agAt h (g := g) (now := 7) (v := v') (ls := [⟨1, 3, 500⟩]) h1 h2
  go_upto_region 7 with (first | go_big_skip | (go_at_call 23; (have h4 := O4 _ _ _ (AG _ _ HO (List.Mem.tail _ (List.Mem.head _)) (List.Mem.tail _ (List.Mem.tail _ (List.Mem.head _))))); (have h5 := O5 _ _ _ (AG _ _ HO (List.Mem.tail _ (List.Mem.head _)) (List.Mem.tail _ (List.Mem.tail _ (List.Mem.head _))))); first | ((with_reducible refine h4.mono ?_); clear h4 h5; rintro e w ⟨rfl, hb⟩; replace HO := HO.call hb; clear hb) | ((with_reducible refine h5.mono ?_); clear h4 h5; rintro e w ⟨rfl, hb⟩; replace HO := HO.call hb; clear hb)))
  have hq : ∀ w, (binOp .neq 47 (.agg #[.int .i64 1, .int .i64 3, .int .i64 500]) (.agg #[.int .i64 1, .int .i64 3, .int .i64 500])).run Tryd.prog w = .ok (.bool false) w := fun w => run_line_neq ⟨1, 3, 500⟩ ⟨1, 3, 500⟩ w
  have RW : ∀ (w' : World) (L : List Ent), Own W w' L → row 47 3 (.slice (some q9) (0 + 1) c9) [[.int .i64 1, .int .i64 3, .int .i64 500]] ∈ L → ∀ (j : Nat) (u : Value), [Value.int .i64 1, .int .i64 3, .int .i64 500][j]? = some u → w'.cell? (q9.add j) = some u := fun w' L h hm j u hu => by
    obtain ⟨b, cap, hb, _, _, hR⟩ := (isL_of_owns (L := [[.int .i64 1, .int .i64 3, .int .i64 500]]) (by decide) (h.has _ hm)).at (by decide)
    cases hb
    have := hR.c 0 (by decide) j u hu
    simpa [add0] using this
  go_wp2_with (first | go_big_skip | (first | ((with_reducible apply wpList_lit1 HO); exact rfl; infer_instance; infer_instance; exact rfl; exact rfl; exact (by decide); exact rfl; clear HO; intro bl w HO; (simp only [Act.put, List.setIfInBounds_toArray, List.set_cons_succ, List.set_cons_zero])) | ((with_reducible apply wpList_lit1c HO); exact rfl; infer_instance; infer_instance; (first | (simp [Act.eval]; rfl) | exact rfl); exact rfl; exact rfl; clear HO; intro bl w HO; (simp only [Act.put, List.setIfInBounds_toArray, List.set_cons_succ, List.set_cons_zero]))) | ((with_reducible apply wpList_loadAt HO); exact rfl; exact rfl; exact (fun w' h1 => RW w' _ h1 (List.Mem.head _)); infer_instance; exact rfl; exact rfl; (simp only [Act.put, List.setIfInBounds_toArray, List.set_cons_succ, List.set_cons_zero])))
  replace HO := HO.litRow (A := [rPaid].map rowC) (k := 5) (rowC_len _) rfl rfl (by unfold maxLen; simp)
  have hro : RowsIn W (row 73 5 (.slice (some ⟨bl, 0, none⟩) 1 1) ([rPaid].map rowC) :: agPs g 7 v' [⟨1, 3, 500⟩]) (.slice (some ⟨bl, 0, none⟩) 1 1) [rPaid] := fun w' L' h hm => isRows_of_isL (isL_of_owns (rowC_len _) (h.has _ (hm _ (List.Mem.head _))))
  have HO2 : Own W w (coPs a chS i zeroI ++ (inPs i zeroI ++ (row 73 5 (.slice (some ⟨bl, 0, none⟩) 1 1) ([rPaid].map rowC) :: agPs g 7 v' [⟨1, 3, 500⟩]))) := by
    have h1 := HO.sub (L' := row 73 5 (.slice (some ⟨bl, 0, none⟩) 1 1) ([rPaid].map rowC) :: (agPs g 7 v' [⟨1, 3, 500⟩] ++ (coPs a chS i zeroI ++ (inPs i zeroI ++ [])))) (.cons_cons _ (.cons _ (List.Sublist.refl _)))
    rw [List.append_nil] at h1
    have h2 := h1.perm ((List.perm_append_comm (l₁ := row 73 5 (.slice (some ⟨bl, 0, none⟩) 1 1) ([rPaid].map rowC) :: agPs g 7 v' [⟨1, 3, 500⟩]) (l₂ := coPs a chS i zeroI ++ inPs i zeroI)))
    rwa [List.append_assoc] at h2
  clear HO
  have A4 := coApply_any chE4 HO2 ⟨hro, by decide, by decide, rfl⟩ zeroI_ok ch_ok (by decide) hL
  rw [ch_four.1, ch_four.2.1, ch_four.2.2] at A4
  simp only [chE4] at A4
  go_wp2_with (first | go_big_skip | (go_at_call 10; go_must ((with_reducible refine A4.mono ?_); rintro e w ⟨rfl, u', w', i', -, HO⟩)))
  clear A4 HO2 hro
  have HO3 : Own W w (agPs g 7 v' [⟨1, 3, 500⟩] ++ (coPs { a with u := u', v := w' } ⟨chS.L, [chP, chQ]⟩ i' chI ++ (inPs i' chI ++ []))) := by
    have h1 := (List.append_assoc _ _ _ ▸ HO : Own W w ((coPs { a with u := u', v := w' } ⟨chS.L, [chP, chQ]⟩ i' chI ++ inPs i' chI) ++ (row 73 5 (.slice (some ⟨bl, 0, none⟩) 1 1) ([rPaid].map rowC) :: agPs g 7 v' [⟨1, 3, 500⟩])))
    have h2 := (h1.perm List.perm_append_comm).tail
    rw [List.append_nil]
    exact h2
  have A8 := S8 _ _ _ _ _ [] HO3
  rw [ag8, show seeN 7 8 = 8 by decide +kernel] at A8
  dsimp only at A8
  clear HO HO3
  go_wp2_with (first | go_big_skip | (go_at_call 11; go_must ((with_reducible refine A8.mono ?_); rintro e w ⟨v8, rfl, HO⟩)) | (go_at_call 12; go_must ((with_reducible refine (agLines_any (g := g) (now := 8) (v := v8) (ls := []) (Own.agAt HO (List.Mem.head _) (List.Mem.tail _ (List.Mem.head _))) (rowNil_of (HO.has _ (List.Mem.tail _ (List.Mem.head _)))) (by decide)).mono ?_); rintro e w ⟨v9, rfl, HO1⟩; replace HO := HO.lift HO1; clear HO1; obtain ⟨⟨p10, c10, rfl⟩, -⟩ := HO.rowForm (t := 47) (k := 3) (A := ([] : List LineS).map lineC) (v := v9) (At.head _); simp only [List.map_nil, List.length_nil] at HO ⊢)))
  go_ret
  exact ⟨rfl, HO.grown⟩
end Go.Proofs.YtibabfedpdoofaaDoor
namespace Go.Proofs.YtibabfedpdoofaaDoor
open Go.RowKit Go.Own Go.Maps

set_option maxHeartbeats 16000000 in
set_option maxRecDepth 100000 in
theorem agingNone_any (now least : Int) (W : World) (hL : LaidE W) : Calls Tryd.prog 5 #[.int .i64 now, .int .i64 least] W fun e w' => e = .returned (.bool true) ∧ Below W.heap.size W w' := by
  have HO := Own.start W
  go_enter Tryd.func5, Tryd.ntmps5
  go_wp2_with (first | go_big_skip)
  go_loopw [5, 6] (fun x tv wr => (x = .pointer none ∧ tv = .int .i64 0 ∧ Own W wr []) ∨ (∃ g, x = .pointer (some ⟨g, 0, none⟩) ∧ tv = .int .i64 1 ∧ Own W wr [box g (.cells [.bool false, .int .i64 0, .slice none 0 0].toArray 69)]) ∨ (tv = .int .i64 2 ∧ Own W wr [])) (fun _ tv _ => 3 - (intOf tv).toNat)
  case atStart => exact .inl ⟨rfl, rfl, HO⟩
  case round =>
    clear HO
    rcases hrel with ⟨rfl, rfl, HO⟩ | ⟨g, rfl, rfl, HO⟩ | ⟨rfl, HO⟩
    · go_wp2_with (first | go_big_skip | (first | go_big_skip | ((with_reducible apply wpList_loadAll HO); exact rfl; exact rfl; (repeat (with_reducible (first | exact At.head _ | apply At.tail))); infer_instance; exact rfl; exact rfl; (simp only [Act.put, List.setIfInBounds_toArray, List.set_cons_succ, List.set_cons_zero])) | ((with_reducible apply wpList_loadOne HO); exact rfl; exact rfl; (repeat (with_reducible (first | exact At.head _ | apply At.tail))); exact rfl; infer_instance; exact rfl; (simp only [Act.put, List.setIfInBounds_toArray, List.set_cons_succ, List.set_cons_zero]))) | (first | ((with_reducible apply wpList_boxAgg _ HO rfl); exact rfl; exact rfl; exact rfl; clear HO; intro b5 w HO; (simp only [Act.put, List.setIfInBounds_toArray, List.set_cons_succ, List.set_cons_zero])) | ((with_reducible apply wpList_allocAgg _ HO rfl); exact rfl; infer_instance; exact rfl; clear HO; intro b5 w HO; (simp only [Act.put, List.setIfInBounds_toArray, List.set_cons_succ, List.set_cons_zero]))) | (go_at_call 9; go_must ((with_reducible refine (coNew_any _).mono ?_); rintro e w ⟨a9, rfl, HO1⟩; replace HO := HO.call HO1.grown; clear HO1)) | (go_at_call 11; go_must ((with_reducible refine (agSeeNil_any _ _ _).mono ?_); rintro e w ⟨rfl, hb⟩; replace HO := HO.call hb; clear hb)) | (go_at_call 23; go_must ((with_reducible refine (agOldNil_any _ _).mono ?_); rintro e w ⟨rfl, hb⟩; replace HO := HO.call hb; clear hb)) | (go_at_call 12; go_must ((with_reducible refine (agLinesNil_any _).mono ?_); rintro e w ⟨rfl, hb⟩; replace HO := HO.call hb; clear hb)) | (go_at_call 24; go_must ((with_reducible refine (agCopyNil_any _).mono ?_); rintro e w ⟨rfl, hb⟩; replace HO := HO.call hb; clear hb)))
      go_roundw
      case rel => exact .inr (.inl ⟨b5, rfl, by go_num, HO⟩)
      case measure => simp [intOf] <;> omega
    · go_wp2_with (first | go_big_skip | (first | go_big_skip | ((with_reducible apply wpList_loadAll HO); exact rfl; exact rfl; (repeat (with_reducible (first | exact At.head _ | apply At.tail))); infer_instance; exact rfl; exact rfl; (simp only [Act.put, List.setIfInBounds_toArray, List.set_cons_succ, List.set_cons_zero])) | ((with_reducible apply wpList_loadOne HO); exact rfl; exact rfl; (repeat (with_reducible (first | exact At.head _ | apply At.tail))); exact rfl; infer_instance; exact rfl; (simp only [Act.put, List.setIfInBounds_toArray, List.set_cons_succ, List.set_cons_zero]))) | (first | ((with_reducible apply wpList_boxAgg _ HO rfl); exact rfl; exact rfl; exact rfl; clear HO; intro b5 w HO; (simp only [Act.put, List.setIfInBounds_toArray, List.set_cons_succ, List.set_cons_zero])) | ((with_reducible apply wpList_allocAgg _ HO rfl); exact rfl; infer_instance; exact rfl; clear HO; intro b5 w HO; (simp only [Act.put, List.setIfInBounds_toArray, List.set_cons_succ, List.set_cons_zero]))) | (go_at_call 9; go_must ((with_reducible refine (coNew_any _).mono ?_); rintro e w ⟨a9, rfl, HO1⟩; replace HO := HO.call HO1.grown; clear HO1)) | (go_at_call 11; go_must ((with_reducible refine (agSeeNo_any (HO.boxAt (List.Mem.head _)) _ _).mono ?_); rintro e w ⟨rfl, hb⟩; replace HO := HO.call hb; clear hb)) | (go_at_call 23; go_must ((with_reducible refine (agOldNo_any (HO.boxAt (List.Mem.head _)) _).mono ?_); rintro e w ⟨rfl, hb⟩; replace HO := HO.call hb; clear hb)) | (go_at_call 12; go_must ((with_reducible refine (agLinesNo_any (HO.boxAt (List.Mem.head _))).mono ?_); rintro e w ⟨rfl, hb⟩; replace HO := HO.call hb; clear hb)) | (go_at_call 24; go_must ((with_reducible refine (agCopyNo_any (HO.boxAt (List.Mem.head _))).mono ?_); rintro e w ⟨rfl, hb⟩; replace HO := HO.call hb; clear hb)))
      go_roundw
      case rel => exact .inr (.inr ⟨by go_num, HO.sub (List.nil_sublist _)⟩)
      case measure => simp [intOf] <;> omega
    · have hb : 0 ≤ seeN 0 now ∧ seeN 0 now ≤ 1099511627776 := by unfold seeN; omega
      have AD := fun (w : World) (hb : Below W.heap.size W w) => aged_any w (hL.below hb)
      have OL := fun (g : Nat) (w : World) (h : AgAt w g (seeN 0 now) (.slice none 0 0) []) => agOld_any h ⟨hb.1, hb.2, by simp⟩ least (by simp)
      rw [show oldV (oldL [] (seeN 0 now) least) = .tuple #[.int .i64 0, .int .i64 0, .bool true] from rfl] at OL
      go_wp2_with (first | go_big_skip | (go_at_call 8; go_must ((with_reducible refine (agNew_any _).mono ?_); rintro e w ⟨g, rfl, HO1⟩; replace HO := HO.lift HO1; clear HO1)) | (go_at_call 11; go_must ((with_reducible refine (agSeeC_any now HO).mono ?_); clear HO; rintro e w ⟨rfl, HO⟩)) | (go_at_call 23; go_must ((have h9 := OL _ _ (Own.agAt HO (List.Mem.head _) (List.Mem.tail _ (List.Mem.head _)))); (with_reducible refine h9.mono ?_); clear h9; rintro e w ⟨rfl, hb⟩; replace HO := HO.call hb; clear hb)) | (go_at_call 12; go_must ((with_reducible refine (agLines_any (g := g) (now := seeN 0 now) (v := .slice none 0 0) (ls := []) (Own.agAt HO (List.Mem.head _) (List.Mem.tail _ (List.Mem.head _))) (rowNil_of (HO.has _ (List.Mem.tail _ (List.Mem.head _)))) (by decide)).mono ?_); rintro e w ⟨v9, rfl, HO1⟩; replace HO := HO.lift HO1; clear HO1; obtain ⟨⟨p10, c10, rfl⟩, -⟩ := HO.rowForm (t := 47) (k := 3) (A := ([] : List LineS).map lineC) (v := v9) (At.head _); simp only [List.map_nil, List.length_nil] at HO ⊢)) | (go_at_call 7; go_must ((with_reducible refine (AD _ HO.grown).mono ?_); rintro e w ⟨rfl, hb⟩; replace HO := HO.call hb; clear hb)))
      go_ret
      exact ⟨rfl, HO.grown⟩
end Go.Proofs.YtibabfedpdoofaaDoor
namespace Go.Own
open Go.RowKit Go.ChangeShapes Go.WideShapes

theorem trodAll_below {H : Type} {enc : TypeId × Value → H} {P : Program} (hl : laidOutB P = true) {W W' : World} (hb : Below W.heap.size W W') :
    ∀ {ts : List TypeId} {vs : List Value} {ds : List (DataW H)} {ps : List MemPlace}, (∀ t ∈ ts, P.readableRec t = true ∧ t < P.types.size) → (∀ p ∈ ps, p.block < W.heap.size) →
      DataW.TrodAll enc P W 0 (fun _ => true) true ts vs ds ps → DataW.TrodAll enc P W' 0 (fun b => decide (b < W.heap.size)) true ts vs ds ps
  | [], _, _, _, _, _, h => by
    obtain ⟨rfl, rfl, rfl⟩ := trodAll_nil h
    exact trodAll_mk0
  | t :: ts, _, _, _, hr, hp, h => by
    obtain ⟨v, vs1, d, ds1, a, b, rfl, rfl, rfl, h1, h2⟩ := trodAll_cons h
    have ht := hr t List.mem_cons_self
    exact trodAll_cons_mk (Below.trod hl ht.1 ht.2 h1 hb (fun x hx => hp x (List.mem_append_left _ hx)))
      (trodAll_below hl hb (fun u hu => hr u (List.mem_cons_of_mem _ hu)) (fun x hx => hp x (List.mem_append_right _ hx)) h2)

/-- A law's post, from what the walk says: it returns true, and nothing that was there has changed. -/
theorem law_post {H : Type} {enc : TypeId × Value → H} {P : Program} {f : Func} {s : ChangeSpec} {W W' : World} {args : Array Value} {ds gs : List (DataW H)} {before : List MemPlace} {tb : TypeId}
    (hl : laidOutB P = true) (hrd : (f.params.toList.all fun t => P.readableRec t && decide (t < P.types.size)) = true) (hres : f.resultTypes = #[tb]) (htb : P.underlying tb = some .bool) (hvars : s.vars = [])
    (hW : DataW.Whole enc P f.params.toList s.vars false W args.toList ds gs before) (hfn : s.fn H (ds ++ gs) = { results := [.lit (.bool true)], args := ds }) (hb : Below W.heap.size W W') :
    s.post enc P f false true false false W args (.bool true) W' := by
  have hlt := hW.lt
  have hW0 := hW
  obtain ⟨p, q, hA, hV, rfl, hfz, hnd⟩ := hW
  rw [hvars] at hV
  obtain ⟨rfl, rfl⟩ := trodVars_none hV
  have hr : ∀ t ∈ f.params.toList, P.readableRec t = true ∧ t < P.types.size := fun t ht => by
    have := List.all_eq_true.1 hrd t ht
    simpa using this
  refine ⟨ds, [], _, [], p, [], hW0, ?_, ?_, ?_, hb.frame _, fun h => by cases h⟩
  · rw [hfn, hres]
    exact trodAll_mk1 (shut_bool htb true)
  · rw [hfn]
    exact trodAll_below hl hb hr (fun x hx => hlt x (List.mem_append_left _ hx)) hA
  · rw [hfn, hvars]
    rfl
theorem fld {H : Type} {enc : TypeId × Value → H} {P : Program} {w : World} {base : Nat} {spare : Nat → Bool} {held : Bool} {fuel : Nat} {t : TypeId} {fs : Array Field} {cs : List Value} {x : DataW H × List MemPlace}
    (ht : P.underlying t = some (.struct fs)) (h : DataW.trod enc P w base spare held fuel t cs = some x) (j : Nat) (f : Field) (hj : fs[j]? = some f) :
    ∃ n y, DataW.trod enc P w base spare held n f.type ((cs.drop f.offset).take (P.cellsOf f.type)) = some y := by
  obtain ⟨xs, n, _, _, _, hlen, hg⟩ := DataW.trod_struct ht h
  have hlt : j < xs.length := by rw [hlen]; exact (Array.getElem?_eq_some_iff.1 hj).1
  exact ⟨n, xs[j], by rw [hg j f hj]; exact List.getElem?_eq_getElem hlt⟩
theorem str_list (s : ByteArray) : s = ⟨s.data.toList.toArray⟩ := by simp
theorem string_of {H : Type} {enc : TypeId × Value → H} {P : Program} {w : World} {base b0 : Nat} {r : Reach} {spare : Nat → Bool} {held : Bool} {t : TypeId} {v : Value} {d : DataW H} {p : List MemPlace}
    (ht : P.underlying t = some .string) (_hv : Value.okWide P w r b0 t v) (h : DataW.Trod enc P w base spare held t v d p) : ∃ s : List UInt8, v = .string ⟨s.toArray⟩ ∧ s.length ≤ maxLen := by
  obtain ⟨s0, rfl⟩ := okWide_string ht _hv
  obtain ⟨fuel, hf⟩ := h
  obtain ⟨s, e, _, hl⟩ := DataW.trod_string ht hf
  have e2 : s0 = s := by simpa [Value.cells] using e
  subst e2
  exact ⟨s0.data.toList, by simp, by simpa using hl⟩
theorem five {l : List Value} (h : l.length = 5) : ∃ a b c d e, l = [a, b, c, d, e] := by
  match l, h with
  | [a, b, c, d, e], _ => exact ⟨a, b, c, d, e, rfl⟩
end Go.Own

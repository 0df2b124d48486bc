/-
  A core's Apply, by walking the program's text; conditions: the core is one that entries come to, the rows lie in memory, int64 numbers.
  What Apply keeps; plain.
  The plain law of the desk: items proposed, approved, refused; conditions: none. No program in sight.
  What a desk has, what is left of an order's suspense, what is open, by walking the program's text; conditions: the core is one that entries come to.
  What is left of an order's suspense, less what is in a state; what is open; by walking the program's text; conditions: the core is one that entries come to. (Printed by wip/mkdkb.py.)
  Postings told and books copied, by walking the program's and the library's text; conditions: less than 100000 postings.
  A balance, posting by posting, by walking the document's text; conditions: the postings lie in memory, int64 numbers.
  The document's books: a posting posted, a balance told, by walking its text; conditions: int64 numbers, less than 100000 postings.
  A posting posted into the document's desk's books, by walking its text; conditions: int64 numbers, less than 100000 postings. (Printed by wip/mkdkpost.py.)
  Since when orders have suspense, by walking the program's text; conditions: int64 numbers.
  How much is old, by walking the program's text; conditions: int64 numbers.
  What postings are called; plain.
-/
import Derived.Lib.SliceRun
import Derived.BigGuardPart
import Derived.OwnWalk
import Derived.Lib.ItoaMem
import Derived.Test.YtibabfedpdoofaaGreatDoorRa1
import Derived.Test.YtibabfedpdoofaaGreatDoorRa2
import Derived.Test.YtibabfedpdoofaaGreatDoorRa3
import Derived.Test.YtibabfedpdoofaaGreatDoorRa4
import Derived.Test.YtibabfedpdoofaaGreatDoorRa7
namespace Go.Proofs.YtibabfedpdoofaaGreatDoor
open Go.RowKit Go.Own Go.Maps

def EntS.ord (x : EntS) : OrdS := ⟨x.id, x.ref, x.sku, x.qty, x.amt⟩
def applyE (S : CoS) (A : InS) (x : EntS) : Int := if x.k = 1 then placeE S.L x.ord else if x.k = 2 then stopE S.L x.o else if x.k = 3 then replyE S.L x.o x.d x.c else if x.k = 4 then accE A x.p x.q x.rs else 2
def applyS (S : CoS) (A : InS) (x : EntS) : CoS := if x.k = 1 then { S with L := placeL S.L x.ord } else if x.k = 2 then { S with L := stopL S.L x.o } else if x.k = 3 then replyS S x.o x.d x.c else
  if x.k = 4 then (if accE A x.p x.q x.rs = 0 then { S with P := stmtP S.P (byI A (A.put x.p x.q x.rs)) x.q 60 } else S) else S
def applyI (A : InS) (x : EntS) : InS := if x.k = 4 ∧ accE A x.p x.q x.rs = 0 then A.put x.p x.q x.rs else A
/-- Entries as they come. -/
structure EntW (W : World) (M : List Ent) (x : EntS) (v : Value) : Prop where
  rows : RowsIn W M v x.rs
  ref : x.ref.length ≤ maxLen
  sku : x.sku.length ≤ maxLen
  o : inI x.o = true

set_option maxHeartbeats 16000000 in
set_option maxRecDepth 100000 in
theorem coApply_any {W w : World} {M : List Ent} {a : CoA} {S : CoS} {i : InA} {A : InS} {v : Value} (x : EntS) (HO : Own W w (coPs a S i A ++ (inPs i A ++ M))) (hx : EntW W M x v) (hA : InOk A) (hok : CoOk S) (hlen : S.P.length ≤ 99000) (hL : LaidE W) :
    Calls Tryz.prog 27 #[.pointer (some ⟨a.c, 0, none⟩), .agg #[.int .i64 (x).k, .int .i64 (x).id, .string ⟨(x).ref.toArray⟩, .string ⟨(x).sku.toArray⟩, .int .i64 (x).qty, .int .i64 (x).amt, .int .i64 (x).o, .int .i64 (x).d, .int .i64 (x).c, .int .i64 (x).p, .int .i64 (x).q, v]] w fun e w' => e = .returned (.int .i64 (applyE S A x)) ∧ ∃ u' v' i', (x.k ≠ 4 → i' = i) ∧ Own W w' (coPs { a with u := u', v := v' } (applyS S A x) i' (applyI A x) ++ (inPs i' (applyI A x) ++ M)) := by
  have hpm := fun (Z x y z : Ent) (N : List Ent) => (List.perm_append_comm (l₁ := [Z]) (l₂ := [x, y, z])).append_right N
  have NN := fun (Z : Ent) (w : World) (h : Own W w (Z :: (coPs a S i A ++ (inPs i A ++ M)))) => coNone_any (Own.coAt h (a := a) (S := S) (i := i) (A := A) (by repeat (first | exact List.mem_cons_self | apply List.mem_cons_of_mem)) (by repeat (first | exact List.mem_cons_self | apply List.mem_cons_of_mem)) (by repeat (first | exact List.mem_cons_self | apply List.mem_cons_of_mem)))
  have PL : ∀ (Z : Ent) (w : World), Own W w (Z :: (coPs a S i A ++ (inPs i A ++ M))) → Calls Tryz.prog 79 #[.pointer (some ⟨a.c, 0, none⟩), .agg #[.int .i64 x.id, .string ⟨x.ref.toArray⟩, .string ⟨x.sku.toArray⟩, .int .i64 x.qty, .int .i64 x.amt]] w fun e w' => e = .returned (.int .i64 (placeE S.L x.ord)) ∧ ∃ v', Own W w' (coPs { a with v := v' } { S with L := placeL S.L x.ord } i A ++ (Z :: (inPs i A ++ M))) :=
    fun Z w h => coPlace_any x.ord (M := Z :: (inPs i A ++ M)) (h.perm (hpm _ _ _ _ _)) hok.len hx.ref hx.sku
  have ST := fun (Z : Ent) (w : World) (h : Own W w (Z :: (coPs a S i A ++ (inPs i A ++ M)))) => coStop_any x.o (M := Z :: (inPs i A ++ M)) (h.perm (hpm _ _ _ _ _)) hx.o
  have RP := fun (Z : Ent) (w : World) (h : Own W w (Z :: (coPs a S i A ++ (inPs i A ++ M)))) => coReply_any x.o x.d x.c (M := Z :: (inPs i A ++ M)) (h.perm (hpm _ _ _ _ _)) hx.o hok (by omega) hL
  have h7 := fun (Z a b c d e f g : Ent) (N : List Ent) => (List.perm_append_comm (l₁ := [Z]) (l₂ := [a, b, c, d, e, f, g])).append_right N
  have SN := fun (hn : accE A x.p x.q x.rs ≠ 0) (Z : Ent) (w : World) (h : Own W w (Z :: (coPs a S i A ++ (inPs i A ++ M)))) => coStmt_no x.p x.q x.rs (M := Z :: M) (h.perm (h7 _ _ _ _ _ _ _ _ _)) (hx.rows.more Z) hA hL hn
  have SY := fun (hn : accE A x.p x.q x.rs = 0) (Z : Ent) (w : World) (h : Own W w (Z :: (coPs a S i A ++ (inPs i A ++ M)))) => coStmt_yes x.p x.q x.rs (M := Z :: M) (h.perm (h7 _ _ _ _ _ _ _ _ _)) (hx.rows.more Z) hA hok hlen hL hn
  obtain ⟨vp, vc, rfl, -⟩ := (hx.rows _ _ HO (fun e he => List.mem_append_right _ (List.mem_append_right _ he))).slice
  clear hpm h7
  rcases five x.k with hk | hk | hk | hk | ⟨h1, h2, h3, h4⟩
  · rw [show applyE S A x = placeE S.L x.ord by unfold applyE; rw [if_pos hk]]
    rw [show applyS S A x = { S with L := placeL S.L x.ord } by unfold applyS; rw [if_pos hk]]
    rw [show applyI A x = A by unfold applyI; rw [if_neg (by rw [hk]; simp)]]
    clear ST RP SN SY
    go_enter Tryz.func27, Tryz.ntmps27
    go_wp2_with (first | (((with_reducible apply wpList_loadOne HO); exact rfl; exact rfl; (repeat (with_reducible (exact At.head _))); exact rfl; infer_instance; exact rfl; (simp only [Act.put, zA, zB, zC]))) | (((with_reducible apply wpList_boxAgg _ HO rfl); exact rfl; exact rfl; exact rfl; clear HO; intro b1 w HO; (simp only [Act.put, zA, zB, zC]))) | ((with_reducible apply wpList_loadPart HO); exact rfl; exact rfl; (repeat (with_reducible (exact At.head _))); infer_instance; exact (Nat.le_of_ble_eq_true rfl); (simp only [List.drop_succ_cons, List.drop_zero, List.take_succ_cons, List.take_zero]; rfl); exact rfl; (simp only [Act.put, zA, zB, zC])) | (go_at_call 66; go_must ((with_reducible refine (NN _ _ HO).mono ?_); rintro e w ⟨rfl, hb⟩; replace HO := HO.call hb; clear hb)) | (go_at_call 79; go_must ((with_reducible refine (PL _ _ HO).mono ?_); clear HO; rintro e w ⟨rfl, v', HO⟩)))
    go_ret
    exact ⟨rfl, a.u, v', i, fun _ => rfl, HO.sub (by exact .cons_cons _ (.cons_cons _ (.cons_cons _ (.cons _ (List.Sublist.refl _)))))⟩
  · rw [show applyE S A x = stopE S.L x.o by unfold applyE; rw [if_neg (by omega), if_pos hk]]
    rw [show applyS S A x = { S with L := stopL S.L x.o } by unfold applyS; rw [if_neg (by omega), if_pos hk]]
    rw [show applyI A x = A by unfold applyI; rw [if_neg (by rw [hk]; simp)]]
    clear PL RP SN SY
    go_enter Tryz.func27, Tryz.ntmps27
    go_wp2_with (first | (((with_reducible apply wpList_loadOne HO); exact rfl; exact rfl; (repeat (with_reducible (exact At.head _))); exact rfl; infer_instance; exact rfl; (simp only [Act.put, zA, zB, zC]))) | (((with_reducible apply wpList_boxAgg _ HO rfl); exact rfl; exact rfl; exact rfl; clear HO; intro b1 w HO; (simp only [Act.put, zA, zB, zC]))) | (go_at_call 66; go_must ((with_reducible refine (NN _ _ HO).mono ?_); rintro e w ⟨rfl, hb⟩; replace HO := HO.call hb; clear hb)) | (go_at_call 80; go_must ((with_reducible refine (ST _ _ HO).mono ?_); clear HO; rintro e w ⟨rfl, HO⟩)))
    go_ret
    exact ⟨rfl, a.u, a.v, i, fun _ => rfl, HO.sub (by exact .cons_cons _ (.cons_cons _ (.cons_cons _ (.cons _ (List.Sublist.refl _)))))⟩
  · rw [show applyE S A x = replyE S.L x.o x.d x.c by unfold applyE; rw [if_neg (by omega), if_neg (by omega), if_pos hk]]
    rw [show applyS S A x = replyS S x.o x.d x.c by unfold applyS; rw [if_neg (by omega), if_neg (by omega), if_pos hk]]
    rw [show applyI A x = A by unfold applyI; rw [if_neg (by rw [hk]; simp)]]
    clear PL ST SN SY
    go_enter Tryz.func27, Tryz.ntmps27
    go_wp2_with (first | (((with_reducible apply wpList_loadOne HO); exact rfl; exact rfl; (repeat (with_reducible (exact At.head _))); exact rfl; infer_instance; exact rfl; (simp only [Act.put, zA, zB, zC]))) | (((with_reducible apply wpList_boxAgg _ HO rfl); exact rfl; exact rfl; exact rfl; clear HO; intro b1 w HO; (simp only [Act.put, zA, zB, zC]))) | ((with_reducible apply wpList_loadPart HO); exact rfl; exact rfl; (repeat (with_reducible (exact At.head _))); infer_instance; exact (Nat.le_of_ble_eq_true rfl); (simp only [List.drop_succ_cons, List.drop_zero, List.take_succ_cons, List.take_zero]; rfl); exact rfl; (simp only [Act.put, zA, zB, zC])) | (go_at_call 66; go_must ((with_reducible refine (NN _ _ HO).mono ?_); rintro e w ⟨rfl, hb⟩; replace HO := HO.call hb; clear hb)) | (go_at_call 81; go_must ((with_reducible refine (RP _ _ HO).mono ?_); clear HO; rintro e w ⟨rfl, u', HO⟩)))
    go_ret
    exact ⟨rfl, u', a.v, i, fun _ => rfl, HO.sub (by exact .cons_cons _ (.cons_cons _ (.cons_cons _ (.cons _ (List.Sublist.refl _)))))⟩
  · rw [show applyE S A x = accE A x.p x.q x.rs by unfold applyE; rw [if_neg (by omega), if_neg (by omega), if_neg (by omega), if_pos hk]]
    by_cases hn : accE A x.p x.q x.rs = 0
    · rw [show applyS S A x = { S with P := stmtP S.P (byI A (A.put x.p x.q x.rs)) x.q 60 } by unfold applyS; rw [if_neg (by omega), if_neg (by omega), if_neg (by omega), if_pos hk, if_pos hn]]
      rw [show applyI A x = A.put x.p x.q x.rs by unfold applyI; rw [if_pos ⟨hk, hn⟩]]
      have SY := SY hn
      rw [hn]
      clear PL ST SN RP
      go_enter Tryz.func27, Tryz.ntmps27
      go_wp2_with (first | (((with_reducible apply wpList_loadOne HO); exact rfl; exact rfl; (repeat (with_reducible (exact At.head _))); exact rfl; infer_instance; exact rfl; (simp only [Act.put, zA, zB, zC]))) | (((with_reducible apply wpList_boxAgg _ HO rfl); exact rfl; exact rfl; exact rfl; clear HO; intro b1 w HO; (simp only [Act.put, zA, zB, zC]))) | ((with_reducible apply wpList_loadPart HO); exact rfl; exact rfl; (repeat (with_reducible (exact At.head _))); infer_instance; exact (Nat.le_of_ble_eq_true rfl); (simp only [List.drop_succ_cons, List.drop_zero, List.take_succ_cons, List.take_zero]; rfl); exact rfl; (simp only [Act.put, zA, zB, zC])) | (go_at_call 66; go_must ((with_reducible refine (NN _ _ HO).mono ?_); rintro e w ⟨rfl, hb⟩; replace HO := HO.call hb; clear hb)) | (go_at_call 82; go_must ((with_reducible refine (SY _ _ HO).mono ?_); clear HO; rintro e w ⟨rfl, u', i', HO⟩)))
      go_ret
      exact ⟨rfl, u', a.v, i', fun h => absurd hk h, HO.sub (by exact .cons_cons _ (.cons_cons _ (.cons_cons _ (.cons_cons _ (.cons_cons _ (.cons_cons _ (.cons_cons _ (.cons _ (List.Sublist.refl _)))))))))⟩
    · rw [show applyS S A x = S by unfold applyS; rw [if_neg (by omega), if_neg (by omega), if_neg (by omega), if_pos hk, if_neg hn]]
      rw [show applyI A x = A by unfold applyI; rw [if_neg (fun h => hn h.2)]]
      have SN := SN hn
      clear PL ST SY RP
      generalize accE A x.p x.q x.rs = ex at *
      go_enter Tryz.func27, Tryz.ntmps27
      go_wp2_with (first | (((with_reducible apply wpList_loadOne HO); exact rfl; exact rfl; (repeat (with_reducible (exact At.head _))); exact rfl; infer_instance; exact rfl; (simp only [Act.put, zA, zB, zC]))) | (((with_reducible apply wpList_boxAgg _ HO rfl); exact rfl; exact rfl; exact rfl; clear HO; intro b1 w HO; (simp only [Act.put, zA, zB, zC]))) | ((with_reducible apply wpList_loadPart HO); exact rfl; exact rfl; (repeat (with_reducible (exact At.head _))); infer_instance; exact (Nat.le_of_ble_eq_true rfl); (simp only [List.drop_succ_cons, List.drop_zero, List.take_succ_cons, List.take_zero]; rfl); exact rfl; (simp only [Act.put, zA, zB, zC])) | (go_at_call 66; go_must ((with_reducible refine (NN _ _ HO).mono ?_); rintro e w ⟨rfl, hb⟩; replace HO := HO.call hb; clear hb)) | (go_at_call 82; go_must ((with_reducible refine (SN _ _ HO).mono ?_); clear HO; rintro e w ⟨rfl, HO⟩)))
      go_ret
      exact ⟨rfl, a.u, a.v, i, fun _ => rfl, HO.sub (by exact .cons_cons _ (.cons_cons _ (.cons_cons _ (.cons_cons _ (.cons_cons _ (.cons_cons _ (.cons_cons _ (.cons _ (List.Sublist.refl _)))))))))⟩
  · rw [show applyE S A x = 2 by unfold applyE; rw [if_neg h1, if_neg h2, if_neg h3, if_neg h4]]
    rw [show applyS S A x = S by unfold applyS; rw [if_neg h1, if_neg h2, if_neg h3, if_neg h4]]
    rw [show applyI A x = A by unfold applyI; rw [if_neg (fun h => h4 h.1)]]
    clear PL ST SN SY RP
    go_enter Tryz.func27, Tryz.ntmps27
    go_wp2_with (first | (((with_reducible apply wpList_loadOne HO); exact rfl; exact rfl; (repeat (with_reducible (exact At.head _))); exact rfl; infer_instance; exact rfl; (simp only [Act.put, zA, zB, zC]))) | (((with_reducible apply wpList_boxAgg _ HO rfl); exact rfl; exact rfl; exact rfl; clear HO; intro b1 w HO; (simp only [Act.put, zA, zB, zC]))) | (go_at_call 66; go_must ((with_reducible refine (NN _ _ HO).mono ?_); rintro e w ⟨rfl, hb⟩; replace HO := HO.call hb; clear hb)))
    go_ret
    exact ⟨rfl, a.u, a.v, i, fun _ => rfl, HO.tail⟩
end Go.Proofs.YtibabfedpdoofaaGreatDoor
namespace Go.Proofs.YtibabfedpdoofaaGreatDoor
open Go.RowKit Go.Own Go.Maps

theorem placeL_ok {L : List (OrdS × D6)} {o : OrdS} (hl : L.length ≤ 60) (h : ∀ x ∈ L, ordE x.1 = 0) : (placeL L o).length ≤ 60 ∧ ∀ x ∈ placeL L o, ordE x.1 = 0 := by
  unfold placeL
  split
  · rename_i h1
    unfold placeE at h1
    split at h1
    · rename_i h2; exact absurd h1 h2
    · rename_i h2
      split at h1
      · cases h1
      · split at h1
        · cases h1
        · refine ⟨by simp; omega, fun x hx => ?_⟩
          rcases List.mem_append.1 hx with hx | hx
          · exact h x hx
          · obtain rfl := List.mem_singleton.1 hx
            simpa using h2
  · exact ⟨hl, h⟩
theorem sagAt_ok {L : List (OrdS × D6)} {id : Int} {x : OrdS × D6} {t : D6} (hx : ordAt L id = some x) (hl : L.length ≤ 60) (h : ∀ x ∈ L, ordE x.1 = 0) : (sagAt L id (x.1, t)).length ≤ 60 ∧ ∀ z ∈ sagAt L id (x.1, t), ordE z.1 = 0 := by
  obtain ⟨j, hj, _, rfl⟩ := ordAt_some hx
  refine ⟨by simpa [sagAt] using hl, fun y hy => ?_⟩
  rcases List.mem_or_eq_of_mem_set hy with hy | rfl
  · exact h y hy
  · exact h L[j] (List.getElem_mem hj)
theorem postL_len1 (l : List Pst) (p : Pst) : (postL l p).length ≤ l.length + 1 := by
  unfold postL
  split
  · simp
  · omega
theorem applyS_ok {S : CoS} {A : InS} (h : CoOk S) (x : EntS) : CoOk (applyS S A x) ∧ (applyS S A x).P.length ≤ S.P.length + 60 := by
  unfold applyS
  split
  · exact ⟨⟨(placeL_ok h.len h.ord).1, (placeL_ok h.len h.ord).2, h.bk⟩, by simp⟩
  split
  · refine ⟨?_, by simp⟩
    show CoOk ⟨stopL S.L x.o, S.P⟩
    unfold stopL
    split
    · exact h
    · rename_i y hy
      split
      · exact h
      · exact ⟨(sagAt_ok hy h.len h.ord).1, (sagAt_ok hy h.len h.ord).2, h.bk⟩
  split
  · unfold replyS
    split
    · exact ⟨h, by omega⟩
    · rename_i y hy
      split
      · exact ⟨h, by omega⟩
      · refine ⟨⟨(sagAt_ok hy h.len h.ord).1, (sagAt_ok hy h.len h.ord).2, ?_⟩, ?_⟩
        · show Bk (replyP S.P _ _ _)
          unfold replyP
          split
          · exact h.bk.post _
          · split
            · exact h.bk.post _
            · exact h.bk
        · show (replyP S.P _ _ _).length ≤ _
          unfold replyP
          split
          · exact Nat.le_trans (postL_len1 _ _) (by omega)
          · split
            · exact Nat.le_trans (postL_len1 _ _) (by omega)
            · omega
  split
  · split
    · exact ⟨⟨h.len, h.ord, (stmtP_ok h.bk _ _ _).1⟩, (stmtP_ok h.bk _ _ _).2⟩
    · exact ⟨h, by omega⟩
  · exact ⟨h, by omega⟩
theorem applyI_ok {A : InS} (h : InOk A) (x : EntS) : InOk (applyI A x) := by
  unfold applyI
  split
  · rename_i h1
    exact put_ok h (accE_ok h1.2).1
  · exact h
theorem coNew_ok : CoOk ⟨[], []⟩ := ⟨by simp, by simp, .nil⟩
/-- What entries come to. -/
def coreS : CoS × InS → List EntS → CoS × InS := List.foldl (fun s x => (applyS s.1 s.2 x, applyI s.2 x))
def coreOf (l : List EntS) : CoS × InS := coreS (⟨[], []⟩, zeroI) l
theorem coreOf_snoc (l : List EntS) {j : Nat} (hj : j < l.length) : coreOf (l.take (j + 1)) = (applyS (coreOf (l.take j)).1 (coreOf (l.take j)).2 l[j], applyI (coreOf (l.take j)).2 l[j]) := by
  rw [coreOf, List.take_succ_eq_append_getElem hj, coreS, List.foldl_append]
  rfl
theorem coreOf_ok (l : List EntS) : ∀ j ≤ l.length, CoOk (coreOf (l.take j)).1 ∧ (coreOf (l.take j)).1.P.length ≤ 60 * j ∧ InOk (coreOf (l.take j)).2
  | 0, _ => ⟨coNew_ok, by simp [coreOf, coreS], zeroI_ok⟩
  | j + 1, h => by
    obtain ⟨h1, h2, h3⟩ := coreOf_ok l j (by omega)
    rw [coreOf_snoc l (by omega)]
    obtain ⟨h4, h5⟩ := applyS_ok (A := (coreOf (l.take j)).2) h1 l[j]
    exact ⟨h4, by dsimp only; omega, applyI_ok h3 _⟩
end Go.Proofs.YtibabfedpdoofaaGreatDoor
namespace Go.Proofs.YtibabfedpdoofaaGreatDoor
open Go.RowKit Go.Own Go.Maps

structure ItemS where
  b : List UInt8
  o : Int
  a : Int
  s : Int
def itemC (x : ItemS) : List Value := [.string ⟨x.b.toArray⟩, .int .i64 x.o, .int .i64 x.a, .int .i64 x.s]
/-- What a desk is: its items, what was posted. -/
structure DkS where
  I : List ItemS
  P : List Pst
def heldS (s : Int) : Bool := s != 3
def writS (s : Int) : Bool := s == 2
def leftStep (o : Int) (f : Int → Bool) (n : Int × Bool) (x : ItemS) : Int × Bool := if n.2 = true then (if x.o = o then (if f x.s = true then subI n.1 x.a else n) else n) else n
def leftF (I : List ItemS) (n o : Int) (f : Int → Bool) : Int × Bool := I.foldl (leftStep o f) (n, true)
theorem leftF_snoc (I : List ItemS) (x : ItemS) (n o : Int) (f : Int → Bool) : leftF (I ++ [x]) n o f = leftStep o f (leftF I n o f) x := by simp [leftF, List.foldl_append]
theorem leftF_take {I : List ItemS} {j : Nat} (h : j < I.length) (n o : Int) (f : Int → Bool) : leftF (I.take (j + 1)) n o f = leftStep o f (leftF (I.take j) n o f) I[j] := by rw [List.take_succ_eq_append_getElem h, leftF_snoc]
theorem subI_no' {a b : Int} (h : (subI a b).2 = false) : (subI a b).1 = 0 := by
  unfold subI at h ⊢
  split
  · rename_i h1; rw [if_pos h1] at h; cases h
  · rfl
theorem leftStep_in {o : Int} {f : Int → Bool} {n : Int × Bool} {x : ItemS} (h : inI n.1 = true) (h0 : n.2 = false → n.1 = 0) : inI (leftStep o f n x).1 = true ∧ ((leftStep o f n x).2 = false → (leftStep o f n x).1 = 0) := by
  unfold leftStep
  repeat' split
  all_goals first | exact ⟨subI_in _ _, subI_no'⟩ | exact ⟨h, h0⟩
theorem leftFold_in (o : Int) (f : Int → Bool) : ∀ (I : List ItemS) (n : Int × Bool), inI n.1 = true → (n.2 = false → n.1 = 0) → inI (I.foldl (leftStep o f) n).1 = true ∧ ((I.foldl (leftStep o f) n).2 = false → (I.foldl (leftStep o f) n).1 = 0)
  | [], _, h, h0 => ⟨h, h0⟩
  | _x :: I, _, h, h0 => leftFold_in o f I _ (leftStep_in h h0).1 (leftStep_in h h0).2
theorem leftF_in (I : List ItemS) {n : Int} (o : Int) (f : Int → Bool) (h : inI n = true) : inI (leftF I n o f).1 = true := (leftFold_in o f I (n, true) h (by simp)).1
theorem leftF_no {I : List ItemS} {n : Int} {o : Int} {f : Int → Bool} (h : inI n = true) (h2 : (leftF I n o f).2 = false) : leftF I n o f = (0, false) := Prod.ext ((leftFold_in o f I (n, true) h (by simp)).2 h2) h2
theorem leftFold_stop (o : Int) (f : Int → Bool) : ∀ (I : List ItemS) (n : Int × Bool), n.2 = false → I.foldl (leftStep o f) n = n
  | [], _, _ => rfl
  | x :: I, n, h => by
    rw [List.foldl_cons]
    have e : leftStep o f n x = n := by unfold leftStep; rw [if_neg (by rw [h]; simp)]
    rw [e]
    exact leftFold_stop o f I n h
theorem leftF_stop {I : List ItemS} {n o : Int} {f : Int → Bool} {j : Nat} (h : (leftF (I.take j) n o f).2 = false) : leftF I n o f = leftF (I.take j) n o f := by
  unfold leftF at h ⊢
  conv => lhs; rw [← List.take_append_drop j I, List.foldl_append]
  exact leftFold_stop o f _ _ h

def openD (S : CoS) (I : List ItemS) (o : Int) : Int × Bool := match ordAt S.L o with
  | none => (0, false)
  | some _ => leftF I (bal S.P 1 o) o heldS
def withinB (a l : Int) : Bool := if l < 0 then decide (a < 0) && decide (l ≤ a) else decide (0 < a) && decide (a ≤ l)
def someB (n l : Int) : Bool := decide (0 < n) && decide (n ≤ l) || decide (n < 0) && decide (l ≤ n)
theorem some_within (a l : Int) : someB a l = withinB a l := by
  unfold someB withinB
  rw [Bool.eq_iff_iff]
  split <;> simp only [Bool.or_eq_true, Bool.and_eq_true, decide_eq_true_eq] <;> omega
def whoB (b : List UInt8) : Bool := decide (b.length ≠ 0 ∧ b.length ≤ 16)
def propE (S : CoS) (I : List ItemS) (x : ItemS) : Int := if whoB x.b = true then (match ordAt S.L x.o with
  | none => 4
  | some y => if (waitsOf y.2).2 = true then 92 else if (openD S I x.o).2 = true ∧ withinB x.a (openD S I x.o).1 = true then (if I.length < 100 then 0 else 60) else 90) else 2
def propI (S : CoS) (I : List ItemS) (x : ItemS) : List ItemS := if propE S I x = 0 then I ++ [{ x with s := 1 }] else I
def propN (S : CoS) (I : List ItemS) (x : ItemS) : Int := if propE S I x = 0 then (I.length : Int) + 1 else 0
def itemAt (I : List ItemS) (n : Int) : Option ItemS := if 1 ≤ n then I[(n - 1).toNat]? else none
theorem itemAt_no {I : List ItemS} {n : Int} (h : n < 1 ∨ (I.length : Int) < n) : itemAt I n = none := by
  unfold itemAt
  split
  · exact List.getElem?_eq_none (by omega)
  · rfl
theorem itemAt_yes {I : List ItemS} {n : Int} {j : Nat} (h : n = (j : Int) + 1) (hj : j < I.length) : itemAt I n = some I[j] := by
  subst h
  unfold itemAt
  rw [if_pos (by omega), show ((j : Int) + 1 - 1).toNat = j by omega, List.getElem?_eq_getElem hj]
theorem itemAt_some {I : List ItemS} {n : Int} {x : ItemS} (h : itemAt I n = some x) : ∃ (j : Nat) (hj : j < I.length), n = (j : Int) + 1 ∧ x = I[j] := by
  unfold itemAt at h
  split at h
  · obtain ⟨hj, hx⟩ := List.getElem?_eq_some_iff.1 h
    exact ⟨_, hj, by omega, hx.symm⟩
  · cases h
def pendE (I : List ItemS) (b : List UInt8) (n : Int) : Int := if whoB b = true then (match itemAt I n with
  | none => 4
  | some x => if x.s = 1 then 0 else 92) else 2
def wK (n : Int) : ByteArray := ⟨#[119]⟩ ++ ⟨(Lib.itoa n).toArray⟩
def wPst (n : Int) (x : ItemS) : Pst := if x.a < 0 then ⟨wK n, x.o, 1, 4, -x.a⟩ else ⟨wK n, x.o, 4, 1, x.a⟩
/-- Of an item that is pending. -/
def apprX (S : CoS) (D : DkS) (b : List UInt8) (n : Int) (x : ItemS) : Int := if x.b = b then 91 else
  if (leftF D.I (bal S.P 1 x.o) x.o writS).2 = true ∧ withinB x.a (leftF D.I (bal S.P 1 x.o) x.o writS).1 = true then (if x.a = -9223372036854775808 then 90 else postE D.P (wPst n x)) else 90
def apprE (S : CoS) (D : DkS) (b : List UInt8) (n : Int) : Int := if pendE D.I b n = 0 then (match itemAt D.I n with
  | none => 4
  | some x => apprX S D b n x) else pendE D.I b n
def setI (I : List ItemS) (n : Int) (x : ItemS) (s : Int) : List ItemS := I.set (n - 1).toNat { x with s := s }
def apprD (S : CoS) (D : DkS) (b : List UInt8) (n : Int) : DkS := if apprE S D b n = 0 then (match itemAt D.I n with
  | none => D
  | some x => ⟨setI D.I n x 2, postL D.P (wPst n x)⟩) else D
def refuI (I : List ItemS) (b : List UInt8) (n : Int) : List ItemS := if pendE I b n = 0 then (match itemAt I n with
  | none => I
  | some x => setI I n x 3) else I
theorem pend_zero {I : List ItemS} {b : List UInt8} {n : Int} (h : pendE I b n = 0) : whoB b = true ∧ ∃ (j : Nat) (hj : j < I.length), n = (j : Int) + 1 ∧ I[j].s = 1 ∧ itemAt I n = some I[j] := by
  unfold pendE at h
  split at h
  · rename_i h1
    refine ⟨h1, ?_⟩
    split at h
    · cases h
    · rename_i x hx
      split at h
      · rename_i hs
        obtain ⟨j, hj, hn, rfl⟩ := itemAt_some hx
        exact ⟨j, hj, hn, hs, hx⟩
      · cases h
  · cases h
end Go.Proofs.YtibabfedpdoofaaGreatDoor
namespace Go.Proofs.YtibabfedpdoofaaGreatDoor
open Go.RowKit Go.Own Go.Maps

/-- Where a desk lies: its block, its items' slice, the books' block, slice and maps. -/
structure DkA where
  t : Nat
  v : Value
  k : Nat
  u : Value
  pm : Nat
  bm : Nat
structure DkAt (w : World) (x : DkA) (D : DkS) : Prop where
  box : w.heap[x.t]? = some (.cells [x.v, .pointer (some ⟨x.k, 0, none⟩)].toArray 96)
  row : IsL w 4 x.v (D.I.map itemC)
  bk : BkAt w x.k x.u x.pm x.bm D.P
theorem DkAt.below {w w' : World} {x : DkA} {D : DkS} (h : DkAt w x D) (hb : Below w.heap.size w w') : DkAt w' x D :=
  ⟨by rw [hb.block _ (old_lt h.box)]; exact h.box, h.row.below hb h.row.lt, h.bk.below hb⟩
theorem itemC_len (l : List ItemS) : ∀ x ∈ l.map itemC, x.length = 4 := fun x hx => by
  obtain ⟨y, _, rfl⟩ := List.mem_map.1 hx
  rfl
def dkPs (x : DkA) (D : DkS) : List Ent := [box x.t (.cells [x.v, .pointer (some ⟨x.k, 0, none⟩)].toArray 96), row 82 4 x.v (D.I.map itemC), bkE x.k x.u x.pm x.bm D.P]
theorem Own.dkAt {W w : World} {L : List Ent} {x : DkA} {D : DkS} (h : Own W w L) (hm : ∀ e ∈ dkPs x D, e ∈ L) : DkAt w x D := by
  obtain ⟨h4, _⟩ := h.has _ (hm _ (.tail _ (.tail _ (.head _))))
  exact ⟨h.has _ (hm _ (.head _)), isL_of_owns (itemC_len _) (h.has _ (hm _ (.tail _ (.head _)))), ⟨h4 _ (.head _), h4 _ (.tail _ (.head _)), h4 _ (.tail _ (.tail _ (.head _))), h4 _ (.tail _ (.tail _ (.tail _ (.head _))))⟩⟩

set_option maxHeartbeats 4000000 in
theorem dkNone_any {w : World} {x : DkA} {D : DkS} (h : DkAt w x D) : Calls Tryz.prog 101 #[.pointer (some ⟨x.t, 0, none⟩)] w fun e w' => e = .returned (.bool false) ∧ Below w.heap.size w w' := by
  have HO := Own.start w
  have h1 := old_cell h.box 1 rfl
  have hlt := old_lt h.box
  clear h
  go_enter Tryz.func101, Tryz.ntmps101
  go_wp2_with (((with_reducible apply wpList_loadOld1 HO); exact rfl; exact rfl; exact hlt; exact h1; infer_instance; exact rfl; (simp only [Act.put, zA, zB, zC])))
  go_ret
  exact ⟨rfl, HO.grown⟩
set_option maxHeartbeats 4000000 in
theorem held_any (s : Int) (w : World) : Calls Tryz.prog 103 #[.int .i64 s] w fun e w' => e = .returned (.bool (heldS s)) ∧ Below w.heap.size w w' := by
  have HO := Own.start w
  go_enter Tryz.func103, Tryz.ntmps103
  go_wp2_with fail
  go_ret
  exact ⟨rfl, HO.grown⟩
set_option maxHeartbeats 4000000 in
theorem written_any (s : Int) (w : World) : Calls Tryz.prog 108 #[.int .i64 s] w fun e w' => e = .returned (.bool (writS s)) ∧ Below w.heap.size w w' := by
  have HO := Own.start w
  go_enter Tryz.func108, Tryz.ntmps108
  go_wp2_with fail
  go_ret
  exact ⟨rfl, HO.grown⟩
set_option maxHeartbeats 4000000 in
theorem within_any (a l : Int) (w : World) : Calls Tryz.prog 106 #[.int .i64 a, .int .i64 l] w fun e w' => e = .returned (.bool (withinB a l)) ∧ Below w.heap.size w w' := by
  have HO := Own.start w
  unfold withinB
  by_cases h : l < 0
  · rw [if_pos h]
    go_enter Tryz.func106, Tryz.ntmps106
    go_wp2_with fail
    all_goals go_ret
    all_goals refine ⟨ret_bool ?_, HO.grown⟩
    all_goals first | (rw [Bool.eq_iff_iff]; done) | (rw [Bool.eq_iff_iff]; simp; done) | (rw [Bool.eq_iff_iff]; simp; omega)
  · rw [if_neg h]
    go_enter Tryz.func106, Tryz.ntmps106
    go_wp2_with fail
    all_goals go_ret
    all_goals refine ⟨ret_bool ?_, HO.grown⟩
    all_goals first | (rw [Bool.eq_iff_iff]; done) | (rw [Bool.eq_iff_iff]; simp; done) | (rw [Bool.eq_iff_iff]; simp; omega)
set_option maxHeartbeats 4000000 in
theorem who_any (b : List UInt8) (hb : b.length ≤ maxLen) (w : World) : Calls Tryz.prog 104 #[.string ⟨b.toArray⟩] w fun e w' => e = .returned (.bool (whoB b)) ∧ Below w.heap.size w w' := by
  have HO := Own.start w
  unfold whoB
  unfold maxLen at hb
  rcases b with _ | ⟨c, b⟩
  · go_enter Tryz.func104, Tryz.ntmps104
    go_wp2_with fail
    go_ret
    exact ⟨ret_bool (by simp), HO.grown⟩
  · go_enter Tryz.func104, Tryz.ntmps104
    go_wp2_with fail
    all_goals go_ret
    all_goals refine ⟨ret_bool ?_, HO.grown⟩
    all_goals first | (rw [Bool.eq_iff_iff]; done) | (rw [Bool.eq_iff_iff]; simp; done) | (rw [Bool.eq_iff_iff]; simp; omega)
set_option maxHeartbeats 4000000 in
theorem ended_any (o : OrdS) (s : D6) (w : World) : Calls Tryz.prog 105 #[sagaV o s] w fun e w' => e = .returned (.bool (!(waitsOf s).2)) ∧ Below w.heap.size w w' := by
  have HO := Own.start w
  have WT := fun w => waits_any o s w
  unfold sagaV at WT
  simp only [sagaV]
  go_enter Tryz.func105, Tryz.ntmps105
  go_wp2_with (first | (((with_reducible apply wpList_loadAll HO); exact rfl; exact rfl; (repeat (with_reducible (exact At.head _))); infer_instance; exact rfl; exact rfl; (simp only [Act.put, zA, zB, zC]))) | (((with_reducible apply wpList_boxAgg _ HO rfl); exact rfl; exact rfl; exact rfl; clear HO; intro b1 w HO; (simp only [Act.put, zA, zB, zC]))) | (go_at_call 98; go_must ((with_reducible refine (WT _).mono ?_); rintro e w ⟨rfl, hb⟩; replace HO := HO.call hb; clear hb)))
  go_ret
  exact ⟨rfl, HO.grown⟩
end Go.Proofs.YtibabfedpdoofaaGreatDoor
namespace Go.Proofs.YtibabfedpdoofaaGreatDoor
open Go.RowKit Go.Own Go.Maps

theorem leftStep_no {o : Int} {f : Int → Bool} {n : Int} {x : ItemS} : leftStep o f (n, false) x = (n, false) := by unfold leftStep; rw [if_neg (by simp)]
theorem leftStep_other {o : Int} {f : Int → Bool} {n : Int} {x : ItemS} (h : x.o ≠ o) : leftStep o f (n, true) x = (n, true) := by unfold leftStep; rw [if_pos rfl, if_neg h]
theorem leftStep_f {o : Int} {f : Int → Bool} {n : Int} {x : ItemS} (h : x.o = o) (hf : f x.s = false) : leftStep o f (n, true) x = (n, true) := by unfold leftStep; rw [if_pos rfl, if_pos h, if_neg (by rw [hf]; simp)]
theorem leftStep_t {o : Int} {f : Int → Bool} {n : Int} {x : ItemS} (h : x.o = o) (hf : f x.s = true) : leftStep o f (n, true) x = subI n x.a := by unfold leftStep; rw [if_pos rfl, if_pos h, if_pos hf]
/-- What is known of a desk's items. -/
def ItOk (I : List ItemS) : Prop := ∀ x ∈ I, inI x.o = true ∧ inI x.a = true ∧ inI x.s = true ∧ x.b.length ≤ maxLen

set_option maxHeartbeats 8000000 in
set_option maxRecDepth 100000 in
theorem dkLeftHeld_any {W : World} {x : DkA} {D : DkS} {a : CoA} {S : CoS} {i : InA} {A : InS} (h : DkAt W x D) (hc : CoAt W a S i A) (hI : ItOk D.I) (hB : Bk S.P) {o : Int} (ho : inI o = true) :
    Calls Tryz.prog 102 #[.pointer (some ⟨x.t, 0, none⟩), .pointer (some ⟨a.c, 0, none⟩), .int .i64 o, .func (.func 103) #[] #[]] W fun e w' => e = .returned (.tuple #[.int .i64 (leftF D.I (bal S.P 1 o) o heldS).1, .bool (leftF D.I (bal S.P 1 o) o heldS).2]) ∧ Below W.heap.size W w' := by
  have HO := Own.start W
  have B := fun w' (hb : Below W.heap.size W w') => coBal_any (hc.below hb) (n := 1) rfl ho
  have hin := hB.bal_in 1 o
  have HF := Lib.hid (fun s w => held_any s w)
  have HI := Lib.hid hI
  obtain ⟨p, c, hv, hmx⟩ := h.row.slice
  rw [List.length_map] at hv hmx
  have HR := Lib.hid h.row
  have h0 := old_cell h.box 0 rfl
  have hlt := old_lt h.box
  have hmx' : (D.I.length : Int) ≤ 9223372036854775807 := by unfold maxLen at hmx; omega
  rw [hv] at h0
  generalize ha : x.v = av at *
  subst hv
  clear h ha hc hB hI
  generalize bal S.P 1 o = n0 at *
  generalize hg : leftF D.I n0 o heldS = g0
  replace hg := Lib.hid hg
  replace hin := Lib.hid hin
  go_enter Tryz.func102, Tryz.ntmps102
  go_wp2_with (first | ((with_reducible apply wpList_loadOld1 HO); exact rfl; exact rfl; exact hlt; exact h0; infer_instance; exact rfl; (simp only [Act.put, zA, zB, zC])) | (go_at_call 50; go_must ((with_reducible refine (B _ HO.grown).mono ?_); rintro e w ⟨rfl, hb⟩; replace HO := HO.call hb; clear hb)))
  go_loopw [8, 9, 20] (fun nv kv iv wr => ∃ j : Nat, j ≤ D.I.length ∧ iv = .int .i64 (j : Int) ∧ nv = .int .i64 (leftF (D.I.take j) n0 o heldS).1 ∧ kv = .bool (leftF (D.I.take j) n0 o heldS).2 ∧ Own W wr []) (fun _ _ iv _ => D.I.length - (intOf iv).toNat)
  case atStart => exact ⟨0, by omega, rfl, rfl, rfl, HO⟩
  case round =>
    clear HO
    obtain ⟨j, hj, rfl, rfl, rfl, HO⟩ := hrel
    by_cases hjl : j < D.I.length
    · have hjI : (j : Int) < (D.I.length : Int) := by omega
      obtain ⟨b, rfl, hst⟩ := oldAt HR.out rfl hjl
      have hsn := Lib.hid (leftF_take hjl n0 o heldS)
      have hn := leftF_in (D.I.take j) o heldS hin.out
      obtain ⟨h1, h2, h3, h4⟩ := HI.out _ (List.getElem_mem hjl)
      generalize leftF (D.I.take j) n0 o heldS = m at *
      generalize D.I[j] = y at *
      obtain ⟨yb, yo, ya, ys⟩ := y
      obtain ⟨n, ok⟩ := m
      unfold itemC at hst
      replace hst := Lib.hid hst
      simp only at h1 h2 h3 h4 hn
      have SB := fun w => mSub_any hn h2 w
      clear h1 h2 h3 h4 hn
      cases ok
      · clear SB
        go_wp2_with (first | go_big_skip | ((with_reducible apply wpList_storeAll HO); exact rfl; exact rfl; exact rfl; (repeat (with_reducible (exact At.head _))); infer_instance; exact rfl; exact rfl; exact rfl; exact rfl; clear HO; intro w HO; (simp only [Act.put])) | (((with_reducible apply wpList_allocAgg _ HO rfl); exact rfl; infer_instance; exact rfl; clear HO; intro b6 w HO; (simp only [Act.put, zA, zB, zC]))) | ((with_reducible apply wpList_loadAt HO); exact rfl; exact rfl; exact (fun w' h1 => hst.out w' h1.grown); infer_instance; exact rfl; exact rfl; (simp only [Act.put, zA, zB, zC])))
        replace HO := HO.tail
        go_roundw
        case rel => exact ⟨j + 1, by omega, by go_num, by rw [hsn.out, leftStep_no (x := ⟨yb, yo, ya, ys⟩)], by rw [hsn.out, leftStep_no (x := ⟨yb, yo, ya, ys⟩)], HO⟩
        case measure => simp [intOf] <;> omega
      by_cases hz : yo = o
      · subst hz
        cases hf : heldS ys
        · clear SB
          replace HF := Lib.hid (fun w => hf ▸ HF.out ys w)
          go_wp2_with (first | (((with_reducible apply wpList_loadOne HO); exact rfl; exact rfl; (repeat (with_reducible (exact At.head _))); exact rfl; infer_instance; exact rfl; (simp only [Act.put, zA, zB, zC]))) | ((with_reducible apply wpList_storeAll HO); exact rfl; exact rfl; exact rfl; (repeat (with_reducible (exact At.head _))); infer_instance; exact rfl; exact rfl; exact rfl; exact rfl; clear HO; intro w HO; (simp only [Act.put])) | (((with_reducible apply wpList_allocAgg _ HO rfl); exact rfl; infer_instance; exact rfl; clear HO; intro b6 w HO; (simp only [Act.put, zA, zB, zC]))) | ((with_reducible apply wpList_loadAt HO); exact rfl; exact rfl; exact (fun w' h1 => hst.out w' h1.grown); infer_instance; exact rfl; exact rfl; (simp only [Act.put, zA, zB, zC])) | (go_at_call 103; go_must ((with_reducible refine (HF.out _).mono ?_); rintro e w ⟨rfl, hb⟩; replace HO := HO.call hb; clear hb)))
          replace HO := HO.tail
          go_roundw
          case rel => exact ⟨j + 1, by omega, by go_num, by rw [hsn.out, leftStep_f (x := ⟨yb, yo, ya, ys⟩) rfl hf], by rw [hsn.out, leftStep_f (x := ⟨yb, yo, ya, ys⟩) rfl hf], HO⟩
          case measure => simp [intOf] <;> omega
        · replace HF := Lib.hid (fun w => hf ▸ HF.out ys w)
          go_wp2_with (first | (((with_reducible apply wpList_loadOne HO); exact rfl; exact rfl; (repeat (with_reducible (exact At.head _))); exact rfl; infer_instance; exact rfl; (simp only [Act.put, zA, zB, zC]))) | ((with_reducible apply wpList_storeAll HO); exact rfl; exact rfl; exact rfl; (repeat (with_reducible (exact At.head _))); infer_instance; exact rfl; exact rfl; exact rfl; exact rfl; clear HO; intro w HO; (simp only [Act.put])) | (((with_reducible apply wpList_allocAgg _ HO rfl); exact rfl; infer_instance; exact rfl; clear HO; intro b6 w HO; (simp only [Act.put, zA, zB, zC]))) | ((with_reducible apply wpList_loadAt HO); exact rfl; exact rfl; exact (fun w' h1 => hst.out w' h1.grown); infer_instance; exact rfl; exact rfl; (simp only [Act.put, zA, zB, zC])) | (go_at_call 103; go_must ((with_reducible refine (HF.out _).mono ?_); rintro e w ⟨rfl, hb⟩; replace HO := HO.call hb; clear hb)) | (go_at_call 49; go_must ((with_reducible refine (SB _).mono ?_); rintro e w ⟨rfl, hb⟩; replace HO := HO.call hb; clear hb)))
          replace HO := HO.tail
          go_roundw
          case rel => exact ⟨j + 1, by omega, by go_num, by rw [hsn.out, leftStep_t (x := ⟨yb, yo, ya, ys⟩) rfl hf], by rw [hsn.out, leftStep_t (x := ⟨yb, yo, ya, ys⟩) rfl hf], HO⟩
          case measure => simp [intOf] <;> omega
      · have hD : (yo == o) = false := by simpa using hz
        clear SB
        go_wp2_with (first | (((with_reducible apply wpList_loadOne HO); exact rfl; exact rfl; (repeat (with_reducible (exact At.head _))); exact rfl; infer_instance; exact rfl; (simp only [Act.put, zA, zB, zC]))) | ((with_reducible apply wpList_storeAll HO); exact rfl; exact rfl; exact rfl; (repeat (with_reducible (exact At.head _))); infer_instance; exact rfl; exact rfl; exact rfl; exact rfl; clear HO; intro w HO; (simp only [Act.put])) | (((with_reducible apply wpList_allocAgg _ HO rfl); exact rfl; infer_instance; exact rfl; clear HO; intro b6 w HO; (simp only [Act.put, zA, zB, zC]))) | ((with_reducible apply wpList_loadAt HO); exact rfl; exact rfl; exact (fun w' h1 => hst.out w' h1.grown); infer_instance; exact rfl; exact rfl; (simp only [Act.put, zA, zB, zC])))
        replace HO := HO.tail
        go_roundw
        case rel => exact ⟨j + 1, by omega, by go_num, by rw [hsn.out, leftStep_other (x := ⟨yb, yo, ya, ys⟩) hz], by rw [hsn.out, leftStep_other (x := ⟨yb, yo, ya, ys⟩) hz], HO⟩
        case measure => simp [intOf] <;> omega
    · obtain rfl : j = D.I.length := by omega
      rw [List.take_length]
      rw [hg.out]
      go_wp2_with fail
      go_ret2
      exact ⟨rfl, HO.grown⟩

set_option maxHeartbeats 8000000 in
set_option maxRecDepth 100000 in
theorem dkLeftWrit_any {W : World} {x : DkA} {D : DkS} {a : CoA} {S : CoS} {i : InA} {A : InS} (h : DkAt W x D) (hc : CoAt W a S i A) (hI : ItOk D.I) (hB : Bk S.P) {o : Int} (ho : inI o = true) :
    Calls Tryz.prog 102 #[.pointer (some ⟨x.t, 0, none⟩), .pointer (some ⟨a.c, 0, none⟩), .int .i64 o, .func (.func 108) #[] #[]] W fun e w' => e = .returned (.tuple #[.int .i64 (leftF D.I (bal S.P 1 o) o writS).1, .bool (leftF D.I (bal S.P 1 o) o writS).2]) ∧ Below W.heap.size W w' := by
  have HO := Own.start W
  have B := fun w' (hb : Below W.heap.size W w') => coBal_any (hc.below hb) (n := 1) rfl ho
  have hin := hB.bal_in 1 o
  have HF := Lib.hid (fun s w => written_any s w)
  have HI := Lib.hid hI
  obtain ⟨p, c, hv, hmx⟩ := h.row.slice
  rw [List.length_map] at hv hmx
  have HR := Lib.hid h.row
  have h0 := old_cell h.box 0 rfl
  have hlt := old_lt h.box
  have hmx' : (D.I.length : Int) ≤ 9223372036854775807 := by unfold maxLen at hmx; omega
  rw [hv] at h0
  generalize ha : x.v = av at *
  subst hv
  clear h ha hc hB hI
  generalize bal S.P 1 o = n0 at *
  generalize hg : leftF D.I n0 o writS = g0
  replace hg := Lib.hid hg
  replace hin := Lib.hid hin
  go_enter Tryz.func102, Tryz.ntmps102
  go_wp2_with (first | ((with_reducible apply wpList_loadOld1 HO); exact rfl; exact rfl; exact hlt; exact h0; infer_instance; exact rfl; (simp only [Act.put, zA, zB, zC])) | (go_at_call 50; go_must ((with_reducible refine (B _ HO.grown).mono ?_); rintro e w ⟨rfl, hb⟩; replace HO := HO.call hb; clear hb)))
  go_loopw [8, 9, 20] (fun nv kv iv wr => ∃ j : Nat, j ≤ D.I.length ∧ iv = .int .i64 (j : Int) ∧ nv = .int .i64 (leftF (D.I.take j) n0 o writS).1 ∧ kv = .bool (leftF (D.I.take j) n0 o writS).2 ∧ Own W wr []) (fun _ _ iv _ => D.I.length - (intOf iv).toNat)
  case atStart => exact ⟨0, by omega, rfl, rfl, rfl, HO⟩
  case round =>
    clear HO
    obtain ⟨j, hj, rfl, rfl, rfl, HO⟩ := hrel
    by_cases hjl : j < D.I.length
    · have hjI : (j : Int) < (D.I.length : Int) := by omega
      obtain ⟨b, rfl, hst⟩ := oldAt HR.out rfl hjl
      have hsn := Lib.hid (leftF_take hjl n0 o writS)
      have hn := leftF_in (D.I.take j) o writS hin.out
      obtain ⟨h1, h2, h3, h4⟩ := HI.out _ (List.getElem_mem hjl)
      generalize leftF (D.I.take j) n0 o writS = m at *
      generalize D.I[j] = y at *
      obtain ⟨yb, yo, ya, ys⟩ := y
      obtain ⟨n, ok⟩ := m
      unfold itemC at hst
      replace hst := Lib.hid hst
      simp only at h1 h2 h3 h4 hn
      have SB := fun w => mSub_any hn h2 w
      clear h1 h2 h3 h4 hn
      cases ok
      · clear SB
        go_wp2_with (first | go_big_skip | ((with_reducible apply wpList_storeAll HO); exact rfl; exact rfl; exact rfl; (repeat (with_reducible (exact At.head _))); infer_instance; exact rfl; exact rfl; exact rfl; exact rfl; clear HO; intro w HO; (simp only [Act.put])) | (((with_reducible apply wpList_allocAgg _ HO rfl); exact rfl; infer_instance; exact rfl; clear HO; intro b6 w HO; (simp only [Act.put, zA, zB, zC]))) | ((with_reducible apply wpList_loadAt HO); exact rfl; exact rfl; exact (fun w' h1 => hst.out w' h1.grown); infer_instance; exact rfl; exact rfl; (simp only [Act.put, zA, zB, zC])))
        replace HO := HO.tail
        go_roundw
        case rel => exact ⟨j + 1, by omega, by go_num, by rw [hsn.out, leftStep_no (x := ⟨yb, yo, ya, ys⟩)], by rw [hsn.out, leftStep_no (x := ⟨yb, yo, ya, ys⟩)], HO⟩
        case measure => simp [intOf] <;> omega
      by_cases hz : yo = o
      · subst hz
        cases hf : writS ys
        · clear SB
          replace HF := Lib.hid (fun w => hf ▸ HF.out ys w)
          go_wp2_with (first | (((with_reducible apply wpList_loadOne HO); exact rfl; exact rfl; (repeat (with_reducible (exact At.head _))); exact rfl; infer_instance; exact rfl; (simp only [Act.put, zA, zB, zC]))) | ((with_reducible apply wpList_storeAll HO); exact rfl; exact rfl; exact rfl; (repeat (with_reducible (exact At.head _))); infer_instance; exact rfl; exact rfl; exact rfl; exact rfl; clear HO; intro w HO; (simp only [Act.put])) | (((with_reducible apply wpList_allocAgg _ HO rfl); exact rfl; infer_instance; exact rfl; clear HO; intro b6 w HO; (simp only [Act.put, zA, zB, zC]))) | ((with_reducible apply wpList_loadAt HO); exact rfl; exact rfl; exact (fun w' h1 => hst.out w' h1.grown); infer_instance; exact rfl; exact rfl; (simp only [Act.put, zA, zB, zC])) | (go_at_call 108; go_must ((with_reducible refine (HF.out _).mono ?_); rintro e w ⟨rfl, hb⟩; replace HO := HO.call hb; clear hb)))
          replace HO := HO.tail
          go_roundw
          case rel => exact ⟨j + 1, by omega, by go_num, by rw [hsn.out, leftStep_f (x := ⟨yb, yo, ya, ys⟩) rfl hf], by rw [hsn.out, leftStep_f (x := ⟨yb, yo, ya, ys⟩) rfl hf], HO⟩
          case measure => simp [intOf] <;> omega
        · replace HF := Lib.hid (fun w => hf ▸ HF.out ys w)
          go_wp2_with (first | (((with_reducible apply wpList_loadOne HO); exact rfl; exact rfl; (repeat (with_reducible (exact At.head _))); exact rfl; infer_instance; exact rfl; (simp only [Act.put, zA, zB, zC]))) | ((with_reducible apply wpList_storeAll HO); exact rfl; exact rfl; exact rfl; (repeat (with_reducible (exact At.head _))); infer_instance; exact rfl; exact rfl; exact rfl; exact rfl; clear HO; intro w HO; (simp only [Act.put])) | (((with_reducible apply wpList_allocAgg _ HO rfl); exact rfl; infer_instance; exact rfl; clear HO; intro b6 w HO; (simp only [Act.put, zA, zB, zC]))) | ((with_reducible apply wpList_loadAt HO); exact rfl; exact rfl; exact (fun w' h1 => hst.out w' h1.grown); infer_instance; exact rfl; exact rfl; (simp only [Act.put, zA, zB, zC])) | (go_at_call 108; go_must ((with_reducible refine (HF.out _).mono ?_); rintro e w ⟨rfl, hb⟩; replace HO := HO.call hb; clear hb)) | (go_at_call 49; go_must ((with_reducible refine (SB _).mono ?_); rintro e w ⟨rfl, hb⟩; replace HO := HO.call hb; clear hb)))
          replace HO := HO.tail
          go_roundw
          case rel => exact ⟨j + 1, by omega, by go_num, by rw [hsn.out, leftStep_t (x := ⟨yb, yo, ya, ys⟩) rfl hf], by rw [hsn.out, leftStep_t (x := ⟨yb, yo, ya, ys⟩) rfl hf], HO⟩
          case measure => simp [intOf] <;> omega
      · have hD : (yo == o) = false := by simpa using hz
        clear SB
        go_wp2_with (first | (((with_reducible apply wpList_loadOne HO); exact rfl; exact rfl; (repeat (with_reducible (exact At.head _))); exact rfl; infer_instance; exact rfl; (simp only [Act.put, zA, zB, zC]))) | ((with_reducible apply wpList_storeAll HO); exact rfl; exact rfl; exact rfl; (repeat (with_reducible (exact At.head _))); infer_instance; exact rfl; exact rfl; exact rfl; exact rfl; clear HO; intro w HO; (simp only [Act.put])) | (((with_reducible apply wpList_allocAgg _ HO rfl); exact rfl; infer_instance; exact rfl; clear HO; intro b6 w HO; (simp only [Act.put, zA, zB, zC]))) | ((with_reducible apply wpList_loadAt HO); exact rfl; exact rfl; exact (fun w' h1 => hst.out w' h1.grown); infer_instance; exact rfl; exact rfl; (simp only [Act.put, zA, zB, zC])))
        replace HO := HO.tail
        go_roundw
        case rel => exact ⟨j + 1, by omega, by go_num, by rw [hsn.out, leftStep_other (x := ⟨yb, yo, ya, ys⟩) hz], by rw [hsn.out, leftStep_other (x := ⟨yb, yo, ya, ys⟩) hz], HO⟩
        case measure => simp [intOf] <;> omega
    · obtain rfl : j = D.I.length := by omega
      rw [List.take_length]
      rw [hg.out]
      go_wp2_with fail
      go_ret2
      exact ⟨rfl, HO.grown⟩

theorem openD_no {S : CoS} {I : List ItemS} {o : Int} (h : ordAt S.L o = none) : openD S I o = (0, false) := by unfold openD; rw [h]
theorem openD_yes {S : CoS} {I : List ItemS} {o : Int} {y : OrdS × D6} (h : ordAt S.L o = some y) : openD S I o = leftF I (bal S.P 1 o) o heldS := by unfold openD; rw [h]

set_option maxHeartbeats 8000000 in
set_option maxRecDepth 100000 in
theorem dkOpen_any {w : World} {x : DkA} {D : DkS} {a : CoA} {S : CoS} {i : InA} {A : InS} (h : DkAt w x D) (hc : CoAt w a S i A) (hI : ItOk D.I) (hB : Bk S.P) {o : Int} (ho : inI o = true) :
    Calls Tryz.prog 41 #[.pointer (some ⟨x.t, 0, none⟩), .pointer (some ⟨a.c, 0, none⟩), .int .i64 o] w fun e w' => e = .returned (.tuple #[.int .i64 (openD S D.I o).1, .bool (openD S D.I o).2]) ∧ Below w.heap.size w w' := by
  have HO := Own.start w
  have N := fun w' (hb : Below w.heap.size w w') => dkNone_any (h.below hb)
  have OR := fun w' (hb : Below w.heap.size w w') => coOrder_any (hc.below hb) ho
  have LF := fun w' (hb : Below w.heap.size w w') => dkLeftHeld_any (h.below hb) (hc.below hb) hI hB ho
  have hno := leftF_no (I := D.I) (o := o) (f := heldS) (hB.bal_in 1 o)
  clear h hc hI hB
  rcases hx : ordAt S.L o with _ | y
  · rw [openD_no hx]
    rw [hx] at OR
    simp only [ordR, noSaga] at OR
    clear hx LF hno
    go_enter Tryz.func41, Tryz.ntmps41
    go_wp2_with (first | ((with_reducible apply wpList_storeAll HO); exact rfl; exact rfl; exact rfl; (repeat (with_reducible (exact At.head _))); infer_instance; exact rfl; exact rfl; exact rfl; exact rfl; clear HO; intro w HO; (simp only [Act.put])) | (((with_reducible apply wpList_allocAgg _ HO rfl); exact rfl; infer_instance; exact rfl; clear HO; intro b6 w HO; (simp only [Act.put, zA, zB, zC]))) | (go_at_call 101; go_must ((with_reducible refine (N _ HO.grown).mono ?_); rintro e w ⟨rfl, hb⟩; replace HO := HO.call hb; clear hb)) | (go_at_call 36; go_must ((with_reducible refine (OR _ HO.grown).mono ?_); rintro e w ⟨rfl, hb⟩; replace HO := HO.call hb; clear hb)))
    go_ret2
    exact ⟨rfl, HO.grown⟩
  · rw [openD_yes hx]
    rw [hx] at OR
    obtain ⟨yo, ys⟩ := y
    simp only [ordR, sagaV] at OR
    generalize leftF D.I (bal S.P 1 o) o heldS = g at *
    obtain ⟨g1, g2⟩ := g
    clear hx
    cases g2
    · cases hno rfl
      clear hno
      go_enter Tryz.func41, Tryz.ntmps41
      go_wp2_with (first | ((with_reducible apply wpList_storeAll HO); exact rfl; exact rfl; exact rfl; (repeat (with_reducible (exact At.head _))); infer_instance; exact rfl; exact rfl; exact rfl; exact rfl; clear HO; intro w HO; (simp only [Act.put])) | (((with_reducible apply wpList_allocAgg _ HO rfl); exact rfl; infer_instance; exact rfl; clear HO; intro b6 w HO; (simp only [Act.put, zA, zB, zC]))) | (go_at_call 101; go_must ((with_reducible refine (N _ HO.grown).mono ?_); rintro e w ⟨rfl, hb⟩; replace HO := HO.call hb; clear hb)) | (go_at_call 36; go_must ((with_reducible refine (OR _ HO.grown).mono ?_); rintro e w ⟨rfl, hb⟩; replace HO := HO.call hb; clear hb)) | (go_at_call 102; go_must ((with_reducible refine (LF _ HO.grown).mono ?_); rintro e w ⟨rfl, hb⟩; replace HO := HO.call hb; clear hb)))
      go_ret2
      exact ⟨rfl, HO.grown⟩
    · clear hno
      go_enter Tryz.func41, Tryz.ntmps41
      go_wp2_with (first | ((with_reducible apply wpList_storeAll HO); exact rfl; exact rfl; exact rfl; (repeat (with_reducible (exact At.head _))); infer_instance; exact rfl; exact rfl; exact rfl; exact rfl; clear HO; intro w HO; (simp only [Act.put])) | (((with_reducible apply wpList_allocAgg _ HO rfl); exact rfl; infer_instance; exact rfl; clear HO; intro b6 w HO; (simp only [Act.put, zA, zB, zC]))) | (go_at_call 101; go_must ((with_reducible refine (N _ HO.grown).mono ?_); rintro e w ⟨rfl, hb⟩; replace HO := HO.call hb; clear hb)) | (go_at_call 36; go_must ((with_reducible refine (OR _ HO.grown).mono ?_); rintro e w ⟨rfl, hb⟩; replace HO := HO.call hb; clear hb)) | (go_at_call 102; go_must ((with_reducible refine (LF _ HO.grown).mono ?_); rintro e w ⟨rfl, hb⟩; replace HO := HO.call hb; clear hb)))
      go_ret2
      exact ⟨rfl, HO.grown⟩
end Go.Proofs.YtibabfedpdoofaaGreatDoor
namespace Go.Own
open Go.RowKit
theorem wpList_lit0 {P : Program} {ops : Array Oper} {rest : List Oper} {o : Oper} {a : Act} {W w : World} {Q : Exit → Act → World → Prop} {L : List Ent} {t e k by' : Nat} (hO : Own W w L) (ho : o.op = .buildSlice t 0 #[]) (ht : IsSlice P t e) (he : IsElem P e k by')
    (hw : Region.wanted o (yielded ops a.tmps) = true) (h : ∀ b w', Own W w' (row e k (.slice (some ⟨b, 0, none⟩) 0 0) [] :: L) → wpList P ops Q rest (a.put o.dst (.slice (some ⟨b, 0, none⟩) 0 0)) w') : wpList P ops Q (o :: rest) a w := by
  have h1 := he.out
  have hpos := he.pos
  cases hi : P.info? e with
  | none => simp [hi] at h1
  | some i =>
    cases hzz : i.zero with
    | none => simp [hi, hzz] at h1
    | some zv =>
      simp only [hi, hzz, Option.bind_some, Option.map_some, Option.some.injEq, Prod.mk.injEq] at h1
      obtain ⟨h2, h3, _⟩ := h1
      have hr : (execOp a.eval o).run P w = .ok (.value (.slice (some ⟨w.heap.size, 0, none⟩) 0 0)) (w.alloc (.cells #[] e)) := by
        unfold execOp
        simp only [ho, Instr.buildSlice]
        simp [underlying, ht.out, sizeOf, typeInfo, hi, newRow, Instr.fill, show Array.range 0 = #[] by simp [Array.range]]
      refine wpList_value hw hr (h _ _ (hO.more ((Below.refl _ _).alloc (Nat.le_refl _) _) (row_ok _ _ _ _) (World.ownsRow_made w #[] 0 (Nat.zero_le _) (Nat.zero_le _) (by simp)) (fun b hb => ?_) (fun b hb => ?_)))
      · rw [show b = w.heap.size from List.mem_singleton.1 hb]; exact Nat.le_refl _
      · rw [show b = w.heap.size from List.mem_singleton.1 hb]; simp
end Go.Own
namespace Go.Proofs.YtibabfedpdoofaaGreatDoor
open Go.RowKit Go.Own Go.Maps Go.Shelf

theorem pstC_one (l : List Pst) : ∀ u ∈ (l.map pstC).flatten, u.oneCell' = true := by
  intro u hu
  obtain ⟨x, hx, hu⟩ := List.mem_flatten.1 hu
  obtain ⟨p, _, rfl⟩ := List.mem_map.1 hx
  simp only [pstC, List.mem_cons, List.not_mem_nil, or_false] at hu
  rcases hu with rfl | rfl | rfl | rfl | rfl <;> rfl

set_option maxHeartbeats 8000000 in
set_option maxRecDepth 100000 in
theorem sClone_any {W : World} {v : Value} {l : List Pst} (h : IsL W 5 v (l.map pstC)) (hnil : ∀ n c, v = .slice none n c → n = 0) (hlen : l.length ≤ 100000) : Calls Tryz.prog 138 #[v] W fun e w' => ∃ v', e = .returned v' ∧ Own W w' [row 187 5 v' (l.map pstC)] := by
  have HO := Own.start W
  have HH := Lib.hid (fun (w' : World) (L : List Ent) (hO : Own W w' L) => h.below hO.grown h.lt)
  have HL := Lib.hid (pstC_len l)
  have H1 := Lib.hid (pstC_one l)
  have hlen1 : ([] : List (List Value)).length + (l.map pstC).length ≤ 1000000 := by rw [List.length_map]; simp; omega
  obtain ⟨sp, sc, rfl, -⟩ := h.slice
  rw [List.length_map] at HH hnil ⊢
  clear h
  cases sp with
  | none =>
    have h0 : l.length = 0 := hnil _ _ rfl
    obtain rfl : l = [] := List.length_eq_zero_iff.1 h0
    replace HO := HO.nil 187 5
    have hq := fun w => Lib.run_eql_slice_nil (P := Tryz.prog) w _ _ (none : Option Addr) 0 sc 0 0 Tryz.underlying104
    clear h0 hnil
    go_enter Tryz.func138, Tryz.ntmps138
    go_wp2_with fail
    go_ret
    exact ⟨_, rfl, HO⟩
  | some a =>
    have hq := fun w => Lib.run_eql_slice_nil (P := Tryz.prog) w _ _ (some a) l.length sc 0 0 Tryz.underlying104
    clear hnil
    go_enter Tryz.func138, Tryz.ntmps138
    go_wp2_with (first | ((with_reducible apply wpList_lit0 (k := 5) HO); exact rfl; infer_instance; infer_instance; exact rfl; clear HO; intro bl w HO; (simp only [Act.put, zA, zB, zC])) | ((with_reducible apply wpList_appendAll HO); exact rfl; infer_instance; infer_instance; ((simp [Act.eval]; rfl)); exact rfl; exact (HH.out _ _ HO); exact HL.out; exact H1.out; intro _; (repeat (with_reducible (exact At.head _))); (omega); decide; exact rfl; clear HO; intro v2 w HO hv2; (simp only [Act.put, zA, zB, zC])))
    go_ret
    exact ⟨_, rfl, by simpa using HO⟩

def cloneI_ren : Go.Shelf.Ren := ⟨fun | 5 => 139 | 7 => 165 | n => n, fun | 4 => 4 | 20 => 20 | 23 => 190 | 25 => 9 | 3 => 187 | n => n, fun | n => n⟩
theorem cloneI : Go.Proofs.SlLaysW.n5 Tryz.prog cloneI_ren := {
  mixed := by kernel_rfl
  f5 := ⟨Tryz.f139.name, by kernel_rfl, Tryz.func139.trans (congrArg some (by kernel_rfl))⟩
  f7 := Tryz.func165.trans (congrArg some (by kernel_rfl))
  t4 := Tryz.underlying4
  a4 := Tryz.isAgg4
  z4 := Tryz.sizeOf4
  v4 := Tryz.zeroValue4
  t20 := Tryz.underlying20
  a20 := Tryz.isAgg20
  z20 := Tryz.sizeOf20
  v20 := Tryz.zeroValue20
  t23 := Tryz.underlying190
  a23 := Tryz.isAgg190
  z23 := Tryz.sizeOf190
  v23 := Tryz.zeroValue190 }
def cloneB_ren : Go.Shelf.Ren := ⟨fun | 5 => 140 | 7 => 165 | n => n, fun | 4 => 4 | 20 => 20 | 23 => 191 | 25 => 195 | 3 => 2 | n => n, fun | n => n⟩
theorem cloneB : Go.Proofs.SlLaysW.n5 Tryz.prog cloneB_ren := {
  mixed := by kernel_rfl
  f5 := ⟨Tryz.f140.name, by kernel_rfl, Tryz.func140.trans (congrArg some (by kernel_rfl))⟩
  f7 := Tryz.func165.trans (congrArg some (by kernel_rfl))
  t4 := Tryz.underlying4
  a4 := Tryz.isAgg4
  z4 := Tryz.sizeOf4
  v4 := Tryz.zeroValue4
  t20 := Tryz.underlying20
  a20 := Tryz.isAgg20
  z20 := Tryz.sizeOf20
  v20 := Tryz.zeroValue20
  t23 := Tryz.underlying191
  a23 := Tryz.isAgg191
  z23 := Tryz.sizeOf191
  v23 := Tryz.zeroValue191 }
theorem cloneI_any {w : World} {b : Nat} {l : List Pst} (h : (idE b l).F w) : Calls Tryz.prog 139 #[.map (some b)] w fun e w' => ∃ b', e = .returned (.map (some b')) ∧ Own w w' [idE b' l] := by
  obtain ⟨n, f, ⟨D, hD, hB⟩, hn, hf⟩ := h
  refine (AnyW.maps_Clone_owns cloneI _ _ b n D w hD).mono fun e w' ⟨he, h1, _, h3⟩ => ⟨_, he, (Own.start w).more h3 (idE_ok _ _) ⟨n, f, ⟨D, h1, hB⟩, hn, hf⟩ (fun b hb => ?_) (fun b hb => ?_)⟩
  · rw [show b = w.heap.size from List.mem_singleton.1 hb]; exact Nat.le_refl _
  · rw [show b = w.heap.size from List.mem_singleton.1 hb]; exact h1.lt
theorem cloneB_any {w : World} {b : Nat} {l : List Pst} (h : (balE b l).F w) : Calls Tryz.prog 140 #[.map (some b)] w fun e w' => ∃ b', e = .returned (.map (some b')) ∧ Own w w' [balE b' l] := by
  obtain ⟨n, f, ⟨D, hD, hB⟩, hn, hf⟩ := h
  refine (AnyW.maps_Clone_owns cloneB _ _ b n D w hD).mono fun e w' ⟨he, h1, _, h3⟩ => ⟨_, he, (Own.start w).more h3 (balE_ok _ _) ⟨n, f, ⟨D, h1, hB⟩, hn, hf⟩ (fun b hb => ?_) (fun b hb => ?_)⟩
  · rw [show b = w.heap.size from List.mem_singleton.1 hb]; exact Nat.le_refl _
  · rw [show b = w.heap.size from List.mem_singleton.1 hb]; exact h1.lt
theorem BkAt.isL {w : World} {b : Nat} {v : Value} {pm bm : Nat} {l : List Pst} (h : BkAt w b v pm bm l) : IsL w 5 v (l.map pstC) ∧ ∀ n c, v = .slice none n c → n = 0 := by
  refine ⟨isL_of_owns (pstC_len l) h.row, fun n c e => ?_⟩
  rcases h.row.2 with ⟨rfl, h0⟩ | ⟨g, cap, cur, rfl, _⟩
  · cases e; rfl
  · cases e

set_option maxHeartbeats 8000000 in
set_option maxRecDepth 100000 in
theorem bkList_any {W : World} {b : Nat} {v : Value} {pm bm : Nat} {l : List Pst} (h : BkAt W b v pm bm l) (hlen : l.length ≤ 100000) : Calls Tryz.prog 119 #[.pointer (some ⟨b, 0, none⟩)] W fun e w' => ∃ v', e = .returned v' ∧ Own W w' [row 187 5 v' (l.map pstC)] := by
  have HO := Own.start W
  have N := bkNone_any h.box
  have HC := fun w (hb : Below W.heap.size W w) => sClone_any ((h.below hb).isL.1) h.isL.2 hlen
  have hv : v.oneCell' = true := by
    rcases h.row.2 with ⟨rfl, h0⟩ | ⟨g, cap, cur, rfl, _⟩ <;> rfl
  have h0 := old_cell h.box 0 rfl
  have hlt := old_lt h.box
  clear h
  go_enter Tryz.func119, Tryz.ntmps119
  go_wp2_with (first | ((with_reducible apply wpList_loadOld1 HO); exact rfl; exact rfl; exact hlt; exact h0; infer_instance; exact rfl; (simp only [Act.put, zA, zB, zC])) | (go_at_call 112; go_must ((with_reducible refine (N).mono ?_); rintro e w ⟨rfl, hb⟩; replace HO := HO.call hb; clear hb)) | (go_at_call 138; go_must ((with_reducible refine (HC _ HO.grown).mono ?_); rintro e w ⟨v2, rfl, HO1⟩; replace HO := HO.lift HO1; clear HO1; simp only [List.cons_append, List.nil_append] at HO)))
  go_ret
  exact ⟨_, rfl, HO⟩

set_option maxHeartbeats 8000000 in
set_option maxRecDepth 100000 in
theorem bkCopy_any {W : World} {b : Nat} {v : Value} {pm bm : Nat} {l : List Pst} (h : BkAt W b v pm bm l) (hlen : l.length ≤ 100000) : Calls Tryz.prog 97 #[.pointer (some ⟨b, 0, none⟩)] W fun e w' => ∃ b' v' pm' bm', e = .returned (.pointer (some ⟨b', 0, none⟩)) ∧ Own W w' [bkE b' v' pm' bm' l] := by
  have HO := Own.start W
  have N := bkNone_any h.box
  have HC := fun w (hb : Below W.heap.size W w) => sClone_any ((h.below hb).isL.1) h.isL.2 hlen
  have HI := fun w (hb : Below W.heap.size W w) => cloneI_any (h.below hb).ids
  have HB := fun w (hb : Below W.heap.size W w) => cloneB_any (h.below hb).bals
  have hv : v.oneCell' = true := by
    rcases h.row.2 with ⟨rfl, h0⟩ | ⟨g, cap, cur, rfl, _⟩ <;> rfl
  have hlt := old_lt h.box
  have HK := Lib.hid (fun (w' : World) (hb : Below W.heap.size W w') (i : Nat) (u : Value) (hu : [v, .map (some pm), .map (some bm)][i]? = some u) => show w'.cell? ⟨b, i, none⟩ = some u by
    rw [hb.cell (p := ⟨b, i, none⟩) hlt]; exact old_cell h.box i hu)
  clear h
  go_enter Tryz.func97, Tryz.ntmps97
  go_upto_region 3 with ((go_at_call 112; go_must ((with_reducible refine (N).mono ?_); rintro e w ⟨rfl, hb⟩; replace HO := HO.call hb; clear hb)))
  refine region_treeO [] [(0, true), (1, true), (2, true), (3, true), (5, true), (6, true), (7, true), (8, true), (10, true), (11, true), (12, true), (13, true), (4, false), (9, false), (14, false), (15, true), (16, false), (17, true)] (.fin [(0, true), (1, true), (2, true), (3, true), (5, true), (6, true), (7, true), (8, true), (10, true), (11, true), (12, true), (13, true), (4, false), (9, false), (14, false), (15, true), (16, false), (17, true)]) HO (by with_reducible (repeat (exact List.nil_sublist _))) (by kernel_rfl) (by kernel_rfl) ?_
  clear HO
  intro w HO
  refine wpS_fin ?_
  iterate 12 (first | ((with_reducible apply wpSched_loadAt1); exact rfl; exact rfl; exact rfl; exact (fun w' hw => HK.out w' (hw _ List.mem_cons_self) _ _ rfl); infer_instance; exact rfl; (simp only [Act.put, zA, zB, zC])) | ((with_reducible apply wpSched_pure); exact rfl; exact rfl; (intro w'; go_simp; try with_reducible rfl); (simp only [Act.put, zA, zB, zC])))
  ((with_reducible apply wpSched_loud); exact rfl; go_wp2_with ((go_at_call 138; go_must ((with_reducible refine (HC _ HO.grown).mono ?_); rintro e w ⟨v2, rfl, HO1⟩; replace HO := HO.lift HO1; clear HO1; simp only [List.cons_append, List.nil_append] at HO))))
  obtain ⟨⟨p9, c9, rfl⟩, -⟩ := HO.rowForm (v := v2) (.head _)
  rw [List.length_map] at HO ⊢
  refine thenQ_keep (HO.heldO (by with_reducible (repeat (exact List.nil_sublist _)))) ?_
  ((with_reducible apply wpSched_loud); exact rfl; go_wp2_with ((go_at_call 139; go_must ((with_reducible refine (HI _ HO.grown).mono ?_); rintro e w ⟨b2, rfl, HO1⟩; replace HO := HO.lift HO1; clear HO1; simp only [List.cons_append, List.nil_append] at HO))))
  refine thenQ_keep (HO.heldO (by with_reducible (repeat (exact List.nil_sublist _)))) ?_
  ((with_reducible apply wpSched_loud); exact rfl; go_wp2_with ((go_at_call 140; go_must ((with_reducible refine (HB _ HO.grown).mono ?_); rintro e w ⟨b3, rfl, HO1⟩; replace HO := HO.lift HO1; clear HO1; simp only [List.cons_append, List.nil_append] at HO))))
  refine thenQ_keep (HO.heldO (by with_reducible (repeat (exact List.nil_sublist _)))) ?_
  ((with_reducible apply wpSched_pure); exact rfl; exact rfl; (intro w'; go_simp; try with_reducible rfl); (simp only [Act.put, zA, zB, zC]))
  ((with_reducible apply wpSched_loud); exact rfl; (((with_reducible apply wpList_boxAgg _ HO rfl); exact rfl; exact rfl; exact rfl; clear HO; intro b4 w HO; (simp only [Act.put, zA, zB, zC]))))
  refine wpList_nil (thenQ_keep (HO.heldO (by with_reducible (repeat (exact List.nil_sublist _)))) ?_)
  ((with_reducible apply wpSched_pure); exact rfl; exact rfl; (intro w'; go_simp; try with_reducible rfl); (simp only [Act.put, zA, zB, zC]))
  refine wpSched_end ?_
  go_wp2_with fail
  go_ret
  exact ⟨b4, .slice p9 l.length c9, b2, b3, rfl, Own.join (es := bkPs b4 (.slice p9 l.length c9) b2 b3 l) (HO.perm ((List.reverse_perm [_, _, _]).symm.cons _))⟩
end Go.Proofs.YtibabfedpdoofaaGreatDoor
namespace Go.Proofs.YtibabfedpdoofaaGreatDoor
open Go.RowKit Go.Own

set_option maxHeartbeats 8000000 in
set_option maxRecDepth 100000 in
theorem sum_any {W : World} {v : Value} {l : List Pst} (n o : Int) (h : IsL W 5 v (l.map pstC)) (hw : ∀ p ∈ l, WfP p) : Calls Tryz.prog 147 #[v, .int .i64 n, .int .i64 o] W fun e w' => e = .returned (.tuple #[.int .i64 (sumR l n o).1, .bool (sumR l n o).2]) ∧ Below W.heap.size W w' := by
  have HH := Lib.hid h
  have HW := Lib.hid hw
  obtain ⟨sp, sc, rfl, hmx⟩ := h.slice
  rw [List.length_map] at hmx HH ⊢
  have hmx' : (l.length : Int) ≤ 9223372036854775807 := by unfold maxLen at hmx; omega
  have HO := Own.start W
  clear h hw
  go_enter Tryz.func147, Tryz.ntmps147
  go_wp2_with fail
  go_loopw [8, 9, 10] (fun m ok i wr => ∃ j : Nat, j ≤ l.length ∧ i = .int .i64 (j : Int) ∧ m = .int .i64 (sumR (l.take j) n o).1 ∧ ok = .bool (sumR (l.take j) n o).2 ∧ Own W wr []) (fun _ _ i _ => l.length - (intOf i).toNat)
  case atStart => exact ⟨0, by omega, rfl, rfl, rfl, HO⟩
  case round =>
    clear HO
    obtain ⟨j, hj, rfl, rfl, rfl, HO⟩ := hrel
    by_cases hjl : j < l.length
    · have hjI : (j : Int) < (l.length : Int) := by omega
      have HS := Lib.hid (sumR_in (l.take j) n o)
      have HE := Lib.hid (sumR_take (n := n) (o := o) hjl)
      have HX := Lib.hid (fun h => sumR_stop (l := l) (n := n) (o := o) (j := j) h)
      generalize sumR (l.take j) n o = s at *
      obtain ⟨m, ok⟩ := s
      cases ok
      · clear HE HS
        go_wp2_with fail
        refine bodyPost_ret ?_ rfl ⟨by rw [HX.out (by trivial)], HO.grown⟩
        (simp only [results, Tryz.results147]; go_simp)
      · clear HX
        obtain ⟨a, rfl, hst⟩ := oldAt HH.out rfl hjl
        replace hst := Lib.hid hst
        have hp := HW.out _ (List.getElem_mem hjl)
        have hc := step_cases l[j] n o m
        have hmi : inI m = true := HS.out
        generalize l[j] = p at *
        obtain ⟨id, po, pd, pc, pa⟩ := p
        have hpa : inI pa = true := hp.a
        simp only at hc
        have HL := fun w' (h1 : Own W w' []) => hst.out w' h1.grown
        have RA := fun w => rAdd_any hmi hpa w
        have RS := fun w => rSub_any hmi hpa w
        clear hp HS hmi hpa hst
        rcases hc with ⟨g1, g2, g3⟩ | ⟨g | ⟨g1, g2⟩, ⟨g3, g4⟩ | ⟨g3, g4, g5⟩ | ⟨g3, g4, g5⟩⟩
        all_goals
          have HG := Lib.hid (by assumption : stepR n o (m, true) ⟨id, po, pd, pc, pa⟩ = _)
          go_wp2_with (first | (first | go_big_skip | ((with_reducible apply wpList_loadOne HO); exact rfl; exact rfl; (repeat (with_reducible (exact At.head _))); exact rfl; infer_instance; exact rfl; (simp only [Act.put, zA, zB, zC]))) | ((with_reducible apply wpList_loadAt HO); exact rfl; exact rfl; exact (HL); infer_instance; exact rfl; exact rfl; (simp only [Act.put, zA, zB, zC])) | ((with_reducible apply wpList_storeAll HO); exact rfl; exact rfl; exact rfl; (repeat (with_reducible (exact At.head _))); infer_instance; exact rfl; exact rfl; exact rfl; exact rfl; clear HO; intro w HO; (simp only [Act.put])) | (((with_reducible apply wpList_allocAgg _ HO rfl); exact rfl; infer_instance; exact rfl; clear HO; intro b0 w HO; (simp only [Act.put, zA, zB, zC]))) | (go_at_call 75; go_must ((with_reducible refine (RA _).mono ?_); rintro e w ⟨rfl, hb⟩; replace HO := HO.call hb; clear hb)) | (go_at_call 116; go_must ((with_reducible refine (RS _).mono ?_); rintro e w ⟨rfl, hb⟩; replace HO := HO.call hb; clear hb)))
          replace HO := HO.tail
          go_roundw
          case rel => exact ⟨j + 1, by omega, by go_num, by rw [HE.out, HG.out], by rw [HE.out, HG.out], HO⟩
          case measure => simp [intOf] <;> omega
    · obtain rfl : j = l.length := by omega
      rw [List.take_length] at *
      go_wp2_with fail
      refine bodyPost_ret ?_ rfl ⟨rfl, HO.grown⟩
      (simp only [results, Tryz.results147]; go_simp)
end Go.Proofs.YtibabfedpdoofaaGreatDoor
namespace Go.Proofs.YtibabfedpdoofaaGreatDoor
open Go.RowKit Go.Own Go.Maps

theorem findP_app {a b : List Pst} {x : Pst} {s : ByteArray} (hn : ∀ q ∈ a, q.id ≠ s) (h : x.id = s) : findP (a ++ x :: b) s = some x := by
  unfold findP
  rw [List.find?_append, List.find?_eq_none.2 (fun q hq => by simpa using hn q hq)]
  simp [h]
theorem findP_at {l : List Pst} {j : Nat} (hj : j < l.length) {s : ByteArray} (hn : ∀ q ∈ l.take j, q.id ≠ s) (h : l[j].id = s) : findP l s = some l[j] :=
  (congrArg (fun m => findP m s) (show l = l.take j ++ l[j] :: l.drop (j + 1) by rw [← List.drop_eq_getElem_cons hj, List.take_append_drop])).trans (findP_app hn h)
theorem findP_none {l : List Pst} {s : ByteArray} (hn : ∀ q ∈ l, q.id ≠ s) : findP l s = none := by
  unfold findP
  exact List.find?_eq_none.2 (fun q hq => by simpa using hn q hq)
theorem str_eq_iff (s t : ByteArray) : (s.toList == t.toList) = decide (s = t) := by
  rw [ByteArray.toList_eq, ByteArray.toList_eq]
  obtain ⟨⟨a⟩⟩ := s
  obtain ⟨⟨b⟩⟩ := t
  by_cases h : a = b <;> simp [h]

end Go.Proofs.YtibabfedpdoofaaGreatDoor
namespace Go.Proofs.YtibabfedpdoofaaGreatDoor
open Go.RowKit Go.Own Go.Maps

/-- The document's desk's block: its items' slice, its postings' slice. -/
def rdB (b : Nat) (dv v : Value) : Ent := box b (.cells [dv, v].toArray 108)
set_option maxHeartbeats 16000000 in
set_option maxRecDepth 100000 in
theorem rdPost_own {W w : World} {M : List Ent} {b : Nat} {dv v : Value} {l : List Pst} (p : Pst) (HO : Own W w (rdB b dv v :: row 187 5 v (l.map pstC) :: M)) (hB : Bk l) (hw : ∀ p ∈ l, WfP p) (hp : WfP p) (hlen : l.length ≤ 100000) :
    Calls Tryz.prog 117 #[.pointer (some ⟨b, 1, none⟩), pstV p] w fun e w' => e = .returned (.int .i64 (postE l p)) ∧ ∃ v', Own W w' (rdB b dv v' :: row 187 5 v' ((postL l p).map pstC) :: M) := by
  replace HO : Own W w (box b (.cells [dv, v].toArray 108) :: row 187 5 v (l.map pstC) :: M) := HO
  obtain ⟨⟨sp, sc, rfl⟩, -⟩ := HO.rowForm (v := v) (.tail _ _ _ (.head _))
  rw [List.length_map] at HO
  have MY := fun w => mayR_any p w
  cases hm : mayPst p
  · have e1 : postE l p = 2 := by simp [postE, hm]
    have e2 : postL l p = l := by simp [postL, hm]
    rw [e1, e2]
    rw [hm] at MY
    clear e1 e2 hm hB hp hw
    obtain ⟨id, o, d, c, a⟩ := p
    simp only [pstV, pstC] at *
    go_enter Tryz.func117, Tryz.ntmps117
    go_wp2_with (first | (((with_reducible apply wpList_loadAll HO); exact rfl; exact rfl; (repeat (with_reducible (exact At.head _))); infer_instance; exact rfl; exact rfl; (simp only [Act.put, zA, zB, zC]))) | (((with_reducible apply wpList_boxAgg _ HO rfl); exact rfl; exact rfl; exact rfl; clear HO; intro b3 w HO; (simp only [Act.put, zA, zB, zC]))) | (go_at_call 146; go_must ((with_reducible refine (MY _).mono ?_); rintro e w ⟨rfl, hb⟩; replace HO := HO.call hb; clear hb)))
    go_ret
    exact ⟨rfl, _, HO.tail⟩
  rw [hm] at MY
  have HE := Lib.hid (show postE l p = (match findP l p.id with | some q => if q = p then 0 else 91 | none => if fitsPst l p = true then 0 else 90) by rw [postE, if_pos hm]; cases findP l p.id <;> rfl)
  have HL := Lib.hid (show postL l p = if ((findP l p.id).isNone && fitsPst l p) = true then l ++ [p] else l by rw [postL, hm, Bool.true_and])
  have HS := Lib.hid (hB.sum_more p hm)
  have HFt := Lib.hid (show fitsPst l p = (inI (bal l p.d 0 + p.a) && inI (bal l p.c 0 - p.a) && (inI (bal l p.d p.o + p.a) && inI (bal l p.c p.o - p.a))) from rfl)
  have HW := Lib.hid (show ∀ q ∈ l ++ [p], WfP q from fun q hq => by
    rcases List.mem_append.1 hq with hq | hq
    · exact hw q hq
    · rw [List.mem_singleton.1 hq]; exact hp)
  have hpc : (l ++ [p]).map pstC = l.map pstC ++ [pstC p] := by simp
  replace hpc := Lib.hid hpc
  have hEq := fun q w => run_pst_eql q p w
  have hlx : (l.length : Int) ≤ 100000 := by omega
  generalize postE l p = ex at *
  generalize postL l p = lx at *
  clear hB hp hw
  obtain ⟨id, o, d, c, a⟩ := p
  simp only [pstV, pstC] at *
  go_enter Tryz.func117, Tryz.ntmps117
  go_wp2_with (first | (((with_reducible apply wpList_loadAll HO); exact rfl; exact rfl; (repeat (with_reducible (exact At.head _))); infer_instance; exact rfl; exact rfl; (simp only [Act.put, zA, zB, zC]))) | (((with_reducible apply wpList_boxAgg _ HO rfl); exact rfl; exact rfl; exact rfl; clear HO; intro b3 w HO; (simp only [Act.put, zA, zB, zC]))) | (go_at_call 146; go_must ((with_reducible refine (MY _).mono ?_); rintro e w ⟨rfl, hb⟩; replace HO := HO.call hb; clear hb)))
  go_loopw [5] (fun i wr => ∃ j : Nat, j ≤ l.length ∧ i = .int .i64 (j : Int) ∧ (∀ q ∈ l.take j, q.id ≠ id) ∧ Own W wr (box b3 (.cells #[.string id, .int .i64 o, .int .i64 d, .int .i64 c, .int .i64 a] 187) :: box b (.cells #[dv, .slice sp l.length sc] 108) :: row 187 5 (.slice sp l.length sc) (l.map pstC) :: M)) (fun i _ => l.length - (intOf i).toNat)
  case atStart => exact ⟨0, by omega, rfl, by simp, HO⟩
  case round =>
    clear HO
    obtain ⟨j, hj, rfl, hnf, HO⟩ := hrel
    by_cases hjl : j < l.length
    · have hjI : (j : Int) < (l.length : Int) := by omega
      obtain ⟨p1, c1, hsl⟩ := (HO.rowForm (v := .slice sp l.length sc) (.tail _ _ _ (.tail _ _ _ (.head _)))).2 (by rw [List.length_map]; omega)
      obtain ⟨rfl, -, rfl⟩ : sp = some p1 ∧ l.length = (l.map pstC).length ∧ sc = c1 := by simpa using hsl
      clear hsl
      have hget : (l.map pstC)[j]? = some (pstC l[j]) := by simp [hjl]
      have HA := Lib.hid (fun w' (h1 : Own W w' (box b3 (.cells #[.string id, .int .i64 o, .int .i64 d, .int .i64 c, .int .i64 a] 187) :: box b (.cells #[dv, .slice (some p1) l.length sc] 108) :: row 187 5 (.slice (some p1) l.length sc) (l.map pstC) :: M)) => h1.rowAt (.tail _ _ _ (.tail _ _ _ (.head _))) (pstC_len l) hget)
      have HN := Lib.hid (fun h => findP_at hjl hnf h)
      have HX := Lib.hid (show l[j].id ≠ id → ∀ q ∈ l.take (j + 1), q.id ≠ id from fun h q hq => by
        rw [List.take_succ_eq_append_getElem hjl] at hq
        rcases List.mem_append.1 hq with hq | hq
        · exact hnf q hq
        · rw [List.mem_singleton.1 hq]; exact h)
      have hEq := hEq l[j]
      clear hget hnf
      generalize l[j] = q at *
      have hse := str_eq_iff q.id id
      generalize hx : decide (q = (⟨id, o, d, c, a⟩ : Pst)) = x at *
      replace hx := Lib.hid hx
      obtain ⟨qi, qo, qd, qc, qa⟩ := q
      simp only [pstC] at HA hEq hse HX HN
      by_cases hid : qi = id
      · have HQ := Lib.hid (HE.out.trans (by rw [HN.out hid]))
        have HM := Lib.hid (HL.out.trans (by rw [HN.out hid]))
        rw [decide_eq_true hid] at hse
        clear HE HL HN HX hid
        go_upto_region 6 with ((((with_reducible apply wpList_loadOne HO); exact rfl; exact rfl; (repeat (with_reducible (first | exact At.head _ | apply At.tail))); exact rfl; infer_instance; exact rfl; (simp only [Act.put, zA, zB, zC]))))
        refine region_own HO (by kernel_rfl) (by kernel_rfl) ?_
        clear HO
        intro F HF
        repeat (first | (first | (((with_reducible apply wpQuiet_loadOne HF); exact rfl; exact rfl; (repeat (with_reducible (first | exact At.head _ | apply At.tail))); exact rfl; infer_instance; exact rfl; (simp only [Act.put, zA, zB, zC]))) | ((with_reducible apply wpQuiet_loadAt1 HF); exact rfl; exact rfl; exact (fun w' h1 => HA.out w' h1 0 _ rfl); infer_instance; exact rfl; (simp only [Act.put, zA, zB, zC]))) | go_big_quiet_step (fail))
        refine wpQuiet_nil ?_
        intro x
        have HO := HF.own x
        clear HF
        generalize F x = w at *
        clear x F
        go_upto_region 7 with (fail)
        refine region_own HO (by kernel_rfl) (by kernel_rfl) ?_
        clear HO
        intro F HF
        repeat (first | (first | (first | ((with_reducible apply wpQuiet_loadAll HF); exact rfl; exact rfl; (repeat (with_reducible (exact At.head _))); infer_instance; exact rfl; exact rfl; (simp only [Act.put, zA, zB, zC])) | ((with_reducible apply wpQuiet_loadOne HF); exact rfl; exact rfl; (repeat (with_reducible (first | exact At.head _ | apply At.tail))); exact rfl; infer_instance; exact rfl; (simp only [Act.put, zA, zB, zC]))) | ((with_reducible apply wpQuiet_loadAt HF); exact rfl; exact rfl; exact (fun w' h1 => HA.out w' h1); infer_instance; exact rfl; exact rfl; (simp only [Act.put, zA, zB, zC]))) | go_big_quiet_step (fail))
        refine wpQuiet_nil ?_
        intro x
        have HO := HF.own x
        clear HF
        generalize F x = w at *
        clear x F
        cases x
        · obtain rfl : ex = 91 := HQ.out.trans (if_neg (of_decide_eq_false hx.out))
          obtain rfl : lx = l := HM.out
          go_wp2_with (fail)
          go_ret
          exact ⟨rfl, _, HO.tail⟩
        · obtain rfl : ex = 0 := HQ.out.trans (if_pos (of_decide_eq_true hx.out))
          obtain rfl : lx = l := HM.out
          go_wp2_with (fail)
          go_ret
          exact ⟨rfl, _, HO.tail⟩
      · have HZ := Lib.hid (HX.out hid)
        rw [decide_eq_false hid] at hse
        clear HX hid
        go_upto_region 6 with ((((with_reducible apply wpList_loadOne HO); exact rfl; exact rfl; (repeat (with_reducible (first | exact At.head _ | apply At.tail))); exact rfl; infer_instance; exact rfl; (simp only [Act.put, zA, zB, zC]))))
        refine region_own HO (by kernel_rfl) (by kernel_rfl) ?_
        clear HO
        intro F HF
        repeat (first | (first | (((with_reducible apply wpQuiet_loadOne HF); exact rfl; exact rfl; (repeat (with_reducible (first | exact At.head _ | apply At.tail))); exact rfl; infer_instance; exact rfl; (simp only [Act.put, zA, zB, zC]))) | ((with_reducible apply wpQuiet_loadAt1 HF); exact rfl; exact rfl; exact (fun w' h1 => HA.out w' h1 0 _ rfl); infer_instance; exact rfl; (simp only [Act.put, zA, zB, zC]))) | go_big_quiet_step (fail))
        refine wpQuiet_nil ?_
        intro x
        have HO := HF.own x
        clear HF
        generalize F x = w at *
        clear x F
        go_wp2_with (fail)
        go_roundw
        case rel => exact ⟨j + 1, by omega, by go_num, HZ.out, HO⟩
        case measure => simp [intOf] <;> omega
    · obtain rfl : j = l.length := by omega
      rw [List.take_length] at hnf
      have hfp := findP_none hnf
      have HQ := Lib.hid (HE.out.trans (by rw [hfp]))
      have HM := Lib.hid (HL.out.trans (by rw [hfp]))
      clear hnf hfp HE HL
      have HL5 := Lib.hid (pstC_len l)
      have H1 := Lib.hid (pstC_one l)
      replace HO := HO.nil 187 5
      go_upto_region 10 with ((((with_reducible apply wpList_loadOne HO); exact rfl; exact rfl; (repeat (with_reducible (first | exact At.head _ | apply At.tail))); exact rfl; infer_instance; exact rfl; (simp only [Act.put, zA, zB, zC]))))
      go_cut [6] (fun x wx => ∃ v3 : Value, x = v3 ∧ Own W wx (row 187 5 v3 ((l ++ [(⟨id, o, d, c, a⟩ : Pst)]).map pstC) :: box b3 (.cells #[.string id, .int .i64 o, .int .i64 d, .int .i64 c, .int .i64 a] 187) :: box b (.cells #[dv, .slice sp l.length sc] 108) :: row 187 5 (.slice sp l.length sc) (l.map pstC) :: M))
      case first =>
        refine region_tree ([box b3 (.cells #[.string id, .int .i64 o, .int .i64 d, .int .i64 c, .int .i64 a] 187), box b (.cells #[dv, .slice sp l.length sc] 108)]) [(0, true), (1, true), (2, true), (3, true), (5, true), (4, false), (6, false), (7, false), (8, true)] ((.fork [(0, true), (1, true), (2, true), (3, true), (5, true)] 4 6 (.fin [(6, false), (7, false), (8, true)]) (.fin [(4, false), (7, false), (8, true)]))) HO (by with_reducible (repeat (first | exact List.nil_sublist _ | apply List.Sublist.cons_cons | apply List.Sublist.cons))) (by kernel_rfl) (by kernel_rfl) ?_
        clear HO
        intro w HO
        refine wpS_fork ?_
        repeat (first | ((with_reducible apply wpSched_loadOne); exact rfl; exact rfl; exact rfl; (repeat (with_reducible (first | exact At.head _ | apply At.tail))); exact rfl; infer_instance; exact rfl; (simp only [Act.put, zA, zB, zC])) | ((with_reducible apply wpSched_loadAll); exact rfl; exact rfl; exact rfl; (repeat (with_reducible (exact At.head _))); infer_instance; exact rfl; exact rfl; (simp only [Act.put, zA, zB, zC])) | ((with_reducible apply wpSched_pure); exact rfl; exact rfl; (intro w'; go_simp; try with_reducible rfl); (simp only [Act.put, zA, zB, zC])))
        refine fork_end rfl rfl ?_ ?_
        · ((with_reducible apply wpList_appendAll HO); exact rfl; infer_instance; infer_instance; ((simp [Act.eval]; rfl)); exact rfl; exact (isL_of_owns (pstC_len l) (HO.has (row 187 5 (.slice sp l.length sc) (l.map pstC)) (by repeat (first | exact List.mem_cons_self | apply List.mem_cons_of_mem)))); exact HL5.out; exact H1.out; intro _; (repeat (with_reducible (exact At.head _))); ((simp; omega)); decide; exact rfl; clear HO; intro v2 w HO hv2; (simp only [Act.put, zA, zB, zC]))
          refine wpList_nil (thenQ_keep (HO.held (by with_reducible (repeat (first | exact List.nil_sublist _ | apply List.Sublist.cons_cons | apply List.Sublist.cons)))) ?_)
          refine wpS_fin ?_
          ((with_reducible apply wpSched_loud); exact rfl; (((with_reducible apply wpList_lit1 HO); exact rfl; infer_instance; infer_instance; exact rfl; exact rfl; exact (by decide); exact rfl; clear HO; intro bl w HO; (simp only [Act.put, zA, zB, zC]))))
          refine wpList_nil (thenQ_keep (HO.held (by with_reducible (repeat (first | exact List.nil_sublist _ | apply List.Sublist.cons_cons | apply List.Sublist.cons)))) ?_)
          ((with_reducible apply wpSched_loud); exact rfl; ((with_reducible apply wpList_push1 HO); exact rfl; infer_instance; infer_instance; ((simp [Act.eval]; rfl)); exact rfl; intro _; (repeat (with_reducible (exact At.head _))); exact rfl; exact rfl; ((simp; omega)); decide; exact rfl; clear HO; intro v2 w HO hv2; (simp only [Act.put, zA, zB, zC])))
          refine wpList_nil (thenQ_free (by kernel_rfl) ?_)
          ((with_reducible apply wpSched_pure); exact rfl; exact rfl; (intro w'; go_simp; try with_reducible rfl); (simp only [Act.put, zA, zB, zC]))
          refine wpSched_end ?_
          go_wp2_with fail
          go_meet
          refine ⟨_, rfl, ?_⟩
          rw [hpc.out]
          simpa using HO
        · (((with_reducible apply wpList_lit1 HO); exact rfl; infer_instance; infer_instance; exact rfl; exact rfl; exact (by decide); exact rfl; clear HO; intro bl w HO; (simp only [Act.put, zA, zB, zC])))
          refine wpList_nil (thenQ_keep (HO.held (by with_reducible (repeat (first | exact List.nil_sublist _ | apply List.Sublist.cons_cons | apply List.Sublist.cons)))) ?_)
          refine wpS_fin ?_
          ((with_reducible apply wpSched_loud); exact rfl; ((with_reducible apply wpList_appendAll HO); exact rfl; infer_instance; infer_instance; ((simp [Act.eval]; rfl)); exact rfl; exact (isL_of_owns (pstC_len l) (HO.has (row 187 5 (.slice sp l.length sc) (l.map pstC)) (by repeat (first | exact List.mem_cons_self | apply List.mem_cons_of_mem)))); exact HL5.out; exact H1.out; intro _; (repeat (with_reducible (first | exact At.head _ | apply At.tail))); ((simp; omega)); decide; exact rfl; clear HO; intro v2 w HO hv2; (simp only [Act.put, zA, zB, zC])))
          refine wpList_nil (thenQ_keep (HO.held (by with_reducible (repeat (first | exact List.nil_sublist _ | apply List.Sublist.cons_cons | apply List.Sublist.cons)))) ?_)
          ((with_reducible apply wpSched_loud); exact rfl; ((with_reducible apply wpList_push1 HO); exact rfl; infer_instance; infer_instance; ((simp [Act.eval]; rfl)); exact rfl; intro _; (repeat (with_reducible (exact At.head _))); exact rfl; exact rfl; ((simp; omega)); decide; exact rfl; clear HO; intro v2 w HO hv2; (simp only [Act.put, zA, zB, zC])))
          refine wpList_nil (thenQ_free (by kernel_rfl) ?_)
          ((with_reducible apply wpSched_pure); exact rfl; exact rfl; (intro w'; go_simp; try with_reducible rfl); (simp only [Act.put, zA, zB, zC]))
          refine wpSched_end ?_
          go_wp2_with fail
          go_meet
          refine ⟨_, rfl, ?_⟩
          rw [hpc.out]
          simpa using HO
      clear HO
      obtain ⟨v3, rfl, HO⟩ := hcut
      obtain ⟨⟨p3, c3, rfl⟩, -⟩ := HO.rowForm (.head _)
      have SM := fun w (n o' : Int) (h : Own W w (row 187 5 (.slice p3 ((l ++ [(⟨id, o, d, c, a⟩ : Pst)]).map pstC).length c3) ((l ++ [(⟨id, o, d, c, a⟩ : Pst)]).map pstC) :: box b3 (.cells #[.string id, .int .i64 o, .int .i64 d, .int .i64 c, .int .i64 a] 187) :: box b (.cells #[dv, .slice sp l.length sc] 108) :: row 187 5 (.slice sp l.length sc) (l.map pstC) :: M)) => sum_any n o' (isL_of_owns (pstC_len _) (h.has _ (.head _))) HW.out
      obtain ⟨s1, s2, s3, s4⟩ := HS.out
      have hF := HFt.out
      try simp only at s1 s2 s3 s4 hF
      rw [← s1, ← s2, ← s3, ← s4] at hF
      clear s1 s2 s3 s4 HS HFt HW hpc HL5 H1
      have S1 := fun w => SM w d o
      have S2 := fun w => SM w c o
      have S3 := fun w => SM w d 0
      have S4 := fun w => SM w c 0
      clear SM
      generalize l ++ [(⟨id, o, d, c, a⟩ : Pst)] = lp at *
      generalize (lp.map pstC).length = n3 at *
      generalize sumR lp d o = r1 at *
      generalize sumR lp c o = r2 at *
      generalize sumR lp d 0 = r3 at *
      generalize sumR lp c 0 = r4 at *
      obtain ⟨x1, k1⟩ := r1
      obtain ⟨x2, k2⟩ := r2
      obtain ⟨x3, k3⟩ := r3
      obtain ⟨x4, k4⟩ := r4
      try simp only at hF S1 S2 S3 S4
      have HF := Lib.hid hF
      clear hF
      go_upto_region 12 with (first | (((with_reducible apply wpList_loadOne HO); exact rfl; exact rfl; (repeat (with_reducible (first | exact At.head _ | apply At.tail))); exact rfl; infer_instance; exact rfl; (simp only [Act.put, zA, zB, zC]))) | (go_at_call 147; go_must ((with_reducible refine (S1 _ HO).mono ?_); rintro e w ⟨rfl, hb⟩; replace HO := HO.call hb; clear hb)))
      go_upto_region 13 with (first | (((with_reducible apply wpList_loadOne HO); exact rfl; exact rfl; (repeat (with_reducible (first | exact At.head _ | apply At.tail))); exact rfl; infer_instance; exact rfl; (simp only [Act.put, zA, zB, zC]))) | (go_at_call 147; go_must ((with_reducible refine (S2 _ HO).mono ?_); rintro e w ⟨rfl, hb⟩; replace HO := HO.call hb; clear hb)))
      go_upto_region 14 with (first | (((with_reducible apply wpList_loadOne HO); exact rfl; exact rfl; (repeat (with_reducible (first | exact At.head _ | apply At.tail))); exact rfl; infer_instance; exact rfl; (simp only [Act.put, zA, zB, zC]))) | (go_at_call 147; go_must ((with_reducible refine (S3 _ HO).mono ?_); rintro e w ⟨rfl, hb⟩; replace HO := HO.call hb; clear hb)))
      go_upto_region 15 with (first | (((with_reducible apply wpList_loadOne HO); exact rfl; exact rfl; (repeat (with_reducible (first | exact At.head _ | apply At.tail))); exact rfl; infer_instance; exact rfl; (simp only [Act.put, zA, zB, zC]))) | (go_at_call 147; go_must ((with_reducible refine (S4 _ HO).mono ?_); rintro e w ⟨rfl, hb⟩; replace HO := HO.call hb; clear hb)))
      cases k1
      · clear S1 S2 S3 S4
        obtain rfl : ex = 90 := HQ.out.trans (if_neg (by rw [HF.out]; simp))
        obtain rfl : lx = l := HM.out.trans (if_neg (by rw [HF.out]; simp))
        go_wp2_with (fail)
        go_ret
        exact ⟨rfl, _, HO.tail.tail⟩
      cases k2
      · clear S1 S2 S3 S4
        obtain rfl : ex = 90 := HQ.out.trans (if_neg (by rw [HF.out]; simp))
        obtain rfl : lx = l := HM.out.trans (if_neg (by rw [HF.out]; simp))
        go_wp2_with (fail)
        go_ret
        exact ⟨rfl, _, HO.tail.tail⟩
      cases k3
      · clear S1 S2 S3 S4
        obtain rfl : ex = 90 := HQ.out.trans (if_neg (by rw [HF.out]; simp))
        obtain rfl : lx = l := HM.out.trans (if_neg (by rw [HF.out]; simp))
        go_wp2_with (fail)
        go_ret
        exact ⟨rfl, _, HO.tail.tail⟩
      cases k4
      · clear S1 S2 S3 S4
        obtain rfl : ex = 90 := HQ.out.trans (if_neg (by rw [HF.out]; simp))
        obtain rfl : lx = l := HM.out.trans (if_neg (by rw [HF.out]; simp))
        go_wp2_with (fail)
        go_ret
        exact ⟨rfl, _, HO.tail.tail⟩
      obtain rfl : ex = 0 := HQ.out.trans (if_pos (by rw [HF.out]; rfl))
      obtain rfl : lx = lp := HM.out.trans (if_pos (by rw [HF.out]; rfl))
      clear S1 S2 S3 S4
      go_wp2_with (((with_reducible apply wpList_storeOne HO); exact rfl; exact rfl; ((simp [Act.eval]; rfl)); exact rfl; (repeat (with_reducible (first | exact At.head _ | apply At.tail))); infer_instance; exact (by simp); (simp only [List.set_cons_succ, List.set_cons_zero]; rfl); exact rfl; clear HO; intro w HO; (simp only [Act.put])))
      go_ret
      exact ⟨rfl, _, ((HO.sub (.cons_cons _ (.cons _ (.cons_cons _ (.cons _ (List.Sublist.refl _)))))).swap)⟩
end Go.Proofs.YtibabfedpdoofaaGreatDoor
namespace Go.Proofs.YtibabfedpdoofaaGreatDoor
open Go.RowKit Go.Own Go.Maps

end Go.Proofs.YtibabfedpdoofaaGreatDoor
namespace Go.Proofs.YtibabfedpdoofaaGreatDoor
open Go.RowKit Go.Own Go.Maps

end Go.Proofs.YtibabfedpdoofaaGreatDoor
namespace Go.Proofs.YtibabfedpdoofaaGreatDoor
open Go.RowKit Go.Own Go.Maps

theorem dec_no45 (u : Nat) : (45 : UInt8) ∉ Lib.decDigits u := fun h => by
  have := (dec_digit u 45 h).1
  revert this
  decide
theorem split45 : ∀ {a b c d : List UInt8}, (45 : UInt8) ∉ a → (45 : UInt8) ∉ c → a ++ 45 :: b = c ++ 45 :: d → a = c ∧ b = d
  | [], b, [], d, _, _, h => ⟨rfl, by simpa using h⟩
  | [], b, y :: c, d, _, h2, h => by
    simp only [List.nil_append, List.cons_append, List.cons.injEq] at h
    exact absurd (by rw [← h.1]; exact List.mem_cons_self) h2
  | x :: a, b, [], d, h1, _, h => by
    simp only [List.nil_append, List.cons_append, List.cons.injEq] at h
    exact absurd (by rw [h.1]; exact List.mem_cons_self) h1
  | x :: a, b, y :: c, d, h1, h2, h => by
    simp only [List.cons_append, List.cons.injEq] at h
    obtain ⟨h3, h4⟩ := split45 (fun h => h1 (List.mem_cons_of_mem _ h)) (fun h => h2 (List.mem_cons_of_mem _ h)) h.2
    exact ⟨by rw [h.1, h3], h4⟩
theorem bytes_ext {a b : ByteArray} (h : a = b) : a.data.toList = b.data.toList := by rw [h]
theorem putK_list (o d : Int) : (putK o d).data.toList = Lib.itoa o ++ 45 :: deedL d := by simp [putK]
theorem sidK_list (q o : Int) : (sidK q o).data.toList = 115 :: (Lib.itoa q ++ 45 :: Lib.itoa o) := by simp [sidK]
theorem itoa_nat {o : Int} (h : 0 ≤ o) : Lib.itoa o = Lib.decDigits o.toNat := by
  have := Lib.itoa_nonneg o.toNat
  rwa [Int.toNat_of_nonneg h] at this
theorem deedL_inj {d d' : Int} (h0 : 0 ≤ d) (h5 : d ≤ 5) (h0' : 0 ≤ d') (h5' : d' ≤ 5) (h : deedL d = deedL d') : d = d' := by
  have h1 := deedsF_word h0 h5
  rw [h, deedsF_word h0' h5'] at h1
  simpa using h1.symm
theorem putK_inj {o d o' d' : Int} (h1 : 0 ≤ o) (h1' : 0 ≤ o') (h0 : 0 ≤ d) (h5 : d ≤ 5) (h0' : 0 ≤ d') (h5' : d' ≤ 5) (h : putK o d = putK o' d') : o = o' ∧ d = d' := by
  have h2 := bytes_ext h
  rw [putK_list, putK_list, itoa_nat h1, itoa_nat h1'] at h2
  obtain ⟨h3, h4⟩ := split45 (dec_no45 _) (dec_no45 _) h2
  have := dec_inj h3
  exact ⟨by omega, deedL_inj h0 h5 h0' h5' h4⟩
theorem sidK_inj {q o q' o' : Int} (h1 : 0 ≤ q) (h1' : 0 ≤ q') (h2 : 0 ≤ o) (h2' : 0 ≤ o') (h : sidK q o = sidK q' o') : q = q' ∧ o = o' := by
  have h3 := bytes_ext h
  rw [sidK_list, sidK_list, itoa_nat h1, itoa_nat h1', itoa_nat h2, itoa_nat h2', List.cons.injEq] at h3
  obtain ⟨h4, h5⟩ := split45 (dec_no45 _) (dec_no45 _) h3.2
  have h6 := dec_inj h4
  have h7 := dec_inj h5
  exact ⟨by omega, by omega⟩
theorem put_ne_sid {o d q o' : Int} (h1 : 0 ≤ o) : putK o d ≠ sidK q o' := fun h => by
  have h2 := bytes_ext h
  rw [putK_list, sidK_list, itoa_nat h1] at h2
  rcases hd : Lib.decDigits o.toNat with _ | ⟨x, l⟩
  · exact dec_ne _ hd
  · rw [hd, List.cons_append, List.cons.injEq] at h2
    have := (dec_digit o.toNat x (by rw [hd]; exact List.mem_cons_self)).2
    rw [h2.1] at this
    revert this
    decide
theorem putK_ne (o d : Int) : (putK o d).size ≠ 0 := by
  unfold putK
  rw [ByteArray.size_append, ByteArray.size_append]
  show _ + 1 + _ ≠ 0
  omega
theorem sidK_ne (q o : Int) : (sidK q o).size ≠ 0 := by
  unfold sidK
  rw [ByteArray.size_append, ByteArray.size_append, ByteArray.size_append]
  show 1 + _ + 1 + _ ≠ 0
  omega
/-- A small posting of an id of its own is posted. -/
theorem delta_small {p : Pst} {b : Int} (h : mayPst p = true) (h2 : p.a ≤ b) (hb : 0 ≤ b) (n o : Int) : -b ≤ delta p n o ∧ delta p n o ≤ b := by
  have := mayPst_iff.1 h
  unfold delta
  repeat' split
  all_goals omega
theorem bal_small {b : Int} (hb : 0 ≤ b) (n o : Int) : ∀ {l : List Pst}, (∀ p ∈ l, mayPst p = true ∧ p.a ≤ b) → -(b * (l.length : Int)) ≤ bal l n o ∧ bal l n o ≤ b * (l.length : Int)
  | [], _ => by simp [bal]
  | p :: l, h => by
    have h1 := bal_small hb n o (fun q hq => h q (List.mem_cons_of_mem _ hq))
    have h2 := delta_small (h p List.mem_cons_self).1 (h p List.mem_cons_self).2 hb n o
    simp only [bal, List.length_cons]
    rw [show ((l.length + 1 : Nat) : Int) = (l.length : Int) + 1 by omega, Int.mul_add, Int.mul_one]
    omega
theorem post_new {P : List Pst} {p : Pst} (h : ∀ q ∈ P, mayPst q = true ∧ q.a ≤ 2199023255552) (hl : P.length ≤ 100000) (hm : mayPst p = true) (ha : p.a ≤ 2199023255552) (hn : ∀ q ∈ P, q.id ≠ p.id) : postL P p = P ++ [p] := by
  unfold postL
  rw [if_pos]
  have h1 : findP P p.id = none := by
    unfold findP
    rw [List.find?_eq_none]
    intro q hq
    simpa using hn q hq
  have hx := mayPst_iff.1 hm
  have hb := fun n o => bal_small (b := 2199023255552) (by decide) n o h
  have e : (2199023255552 : Int) * (P.length : Int) ≤ 219902325555200000 := by omega
  rw [hm, h1]
  simp only [fitsPst, Bool.and_eq_true, inI_iff, Option.isNone_none, true_and]
  have b1 := hb p.d 0
  have b2 := hb p.c 0
  have b3 := hb p.d p.o
  have b4 := hb p.c p.o
  omega
end Go.Proofs.YtibabfedpdoofaaGreatDoor

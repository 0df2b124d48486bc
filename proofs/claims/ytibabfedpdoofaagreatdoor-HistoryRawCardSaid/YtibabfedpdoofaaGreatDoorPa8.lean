/-
  A core's Apply, by walking the program's text; conditions: the core is one that entries come to, the rows lie in memory, int64 numbers.
  What Apply keeps; plain.
  What postings are called; plain.
  What the document's core comes to, and that it is what the program's does; plain.
  The document's numbers and keys as texts, by walking its text; conditions: int64 numbers.
  Postings told and books copied, by walking the program's and the library's text; conditions: less than 100000 postings.
  The document's core: a new one, what it has, a saga set, a posting posted, by walking its text; conditions: int64 numbers.
  What a saga becomes when it goes on, by walking both texts; conditions: none. (Printed by wip/mkon.py.)
  A saga's net, and its beginning, by walking the document's text; conditions: none.
-/
import Derived.Lib.ItoaMem
import Derived.Lib.SliceRun
import Derived.Test.YtibabfedpdoofaaGreatDoorPa1
import Derived.Test.YtibabfedpdoofaaGreatDoorPa3
import Derived.Test.YtibabfedpdoofaaGreatDoorPa5
import Derived.Test.YtibabfedpdoofaaGreatDoorPa6
import Derived.Test.YtibabfedpdoofaaGreatDoorPa7
namespace Go.Proofs.YtibabfedpdoofaaGreatDoor
open Go.RowKit Go.Own Go.Maps

def EntS.ord (x : EntS) : OrdS := ⟨x.id, x.ref, x.sku, x.qty, x.amt⟩
def applyE (S : CoS) (A : InS) (x : EntS) : Int := if x.k = 1 then placeE S.L x.ord else if x.k = 2 then stopE S.L x.o else if x.k = 3 then replyE S.L x.o x.d x.c else if x.k = 4 then accE A x.p x.q x.rs else 2
def applyS (S : CoS) (A : InS) (x : EntS) : CoS := if x.k = 1 then { S with L := placeL S.L x.ord } else if x.k = 2 then { S with L := stopL S.L x.o } else if x.k = 3 then replyS S x.o x.d x.c else
  if x.k = 4 then (if accE A x.p x.q x.rs = 0 then { S with P := stmtP S.P (byI A (A.put x.p x.q x.rs)) x.q 60 } else S) else S
def applyI (A : InS) (x : EntS) : InS := if x.k = 4 ∧ accE A x.p x.q x.rs = 0 then A.put x.p x.q x.rs else A
/-- Entries as they come. -/
structure EntW (W : World) (M : List Ent) (x : EntS) (v : Value) : Prop where
  rows : RowsIn W M v x.rs
  ref : x.ref.length ≤ maxLen
  sku : x.sku.length ≤ maxLen
  o : inI x.o = true

set_option maxHeartbeats 16000000 in
set_option maxRecDepth 100000 in
theorem coApply_any {W w : World} {M : List Ent} {a : CoA} {S : CoS} {i : InA} {A : InS} {v : Value} (x : EntS) (HO : Own W w (coPs a S i A ++ (inPs i A ++ M))) (hx : EntW W M x v) (hA : InOk A) (hok : CoOk S) (hlen : S.P.length ≤ 99000) (hL : LaidE W) :
    Calls Tryz.prog 27 #[.pointer (some ⟨a.c, 0, none⟩), .agg #[.int .i64 (x).k, .int .i64 (x).id, .string ⟨(x).ref.toArray⟩, .string ⟨(x).sku.toArray⟩, .int .i64 (x).qty, .int .i64 (x).amt, .int .i64 (x).o, .int .i64 (x).d, .int .i64 (x).c, .int .i64 (x).p, .int .i64 (x).q, v]] w fun e w' => e = .returned (.int .i64 (applyE S A x)) ∧ ∃ u' v' i', (x.k ≠ 4 → i' = i) ∧ Own W w' (coPs { a with u := u', v := v' } (applyS S A x) i' (applyI A x) ++ (inPs i' (applyI A x) ++ M)) := by
  have hpm := fun (Z x y z : Ent) (N : List Ent) => (List.perm_append_comm (l₁ := [Z]) (l₂ := [x, y, z])).append_right N
  have NN := fun (Z : Ent) (w : World) (h : Own W w (Z :: (coPs a S i A ++ (inPs i A ++ M)))) => coNone_any (Own.coAt h (a := a) (S := S) (i := i) (A := A) (by repeat (first | exact List.mem_cons_self | apply List.mem_cons_of_mem)) (by repeat (first | exact List.mem_cons_self | apply List.mem_cons_of_mem)) (by repeat (first | exact List.mem_cons_self | apply List.mem_cons_of_mem)))
  have PL : ∀ (Z : Ent) (w : World), Own W w (Z :: (coPs a S i A ++ (inPs i A ++ M))) → Calls Tryz.prog 79 #[.pointer (some ⟨a.c, 0, none⟩), .agg #[.int .i64 x.id, .string ⟨x.ref.toArray⟩, .string ⟨x.sku.toArray⟩, .int .i64 x.qty, .int .i64 x.amt]] w fun e w' => e = .returned (.int .i64 (placeE S.L x.ord)) ∧ ∃ v', Own W w' (coPs { a with v := v' } { S with L := placeL S.L x.ord } i A ++ (Z :: (inPs i A ++ M))) :=
    fun Z w h => coPlace_any x.ord (M := Z :: (inPs i A ++ M)) (h.perm (hpm _ _ _ _ _)) hok.len hx.ref hx.sku
  have ST := fun (Z : Ent) (w : World) (h : Own W w (Z :: (coPs a S i A ++ (inPs i A ++ M)))) => coStop_any x.o (M := Z :: (inPs i A ++ M)) (h.perm (hpm _ _ _ _ _)) hx.o
  have RP := fun (Z : Ent) (w : World) (h : Own W w (Z :: (coPs a S i A ++ (inPs i A ++ M)))) => coReply_any x.o x.d x.c (M := Z :: (inPs i A ++ M)) (h.perm (hpm _ _ _ _ _)) hx.o hok (by omega) hL
  have h7 := fun (Z a b c d e f g : Ent) (N : List Ent) => (List.perm_append_comm (l₁ := [Z]) (l₂ := [a, b, c, d, e, f, g])).append_right N
  have SN := fun (hn : accE A x.p x.q x.rs ≠ 0) (Z : Ent) (w : World) (h : Own W w (Z :: (coPs a S i A ++ (inPs i A ++ M)))) => coStmt_no x.p x.q x.rs (M := Z :: M) (h.perm (h7 _ _ _ _ _ _ _ _ _)) (hx.rows.more Z) hA hL hn
  have SY := fun (hn : accE A x.p x.q x.rs = 0) (Z : Ent) (w : World) (h : Own W w (Z :: (coPs a S i A ++ (inPs i A ++ M)))) => coStmt_yes x.p x.q x.rs (M := Z :: M) (h.perm (h7 _ _ _ _ _ _ _ _ _)) (hx.rows.more Z) hA hok hlen hL hn
  obtain ⟨vp, vc, rfl, -⟩ := (hx.rows _ _ HO (fun e he => List.mem_append_right _ (List.mem_append_right _ he))).slice
  clear hpm h7
  rcases five x.k with hk | hk | hk | hk | ⟨h1, h2, h3, h4⟩
  · rw [show applyE S A x = placeE S.L x.ord by unfold applyE; rw [if_pos hk]]
    rw [show applyS S A x = { S with L := placeL S.L x.ord } by unfold applyS; rw [if_pos hk]]
    rw [show applyI A x = A by unfold applyI; rw [if_neg (by rw [hk]; simp)]]
    clear ST RP SN SY
    go_enter Tryz.func27, Tryz.ntmps27
    go_wp2_with (first | (((with_reducible apply wpList_loadOne HO); exact rfl; exact rfl; (repeat (with_reducible (exact At.head _))); exact rfl; infer_instance; exact rfl; (simp only [Act.put, zA, zB, zC]))) | (((with_reducible apply wpList_boxAgg _ HO rfl); exact rfl; exact rfl; exact rfl; clear HO; intro b1 w HO; (simp only [Act.put, zA, zB, zC]))) | ((with_reducible apply wpList_loadPart HO); exact rfl; exact rfl; (repeat (with_reducible (exact At.head _))); infer_instance; exact (Nat.le_of_ble_eq_true rfl); (simp only [List.drop_succ_cons, List.drop_zero, List.take_succ_cons, List.take_zero]; rfl); exact rfl; (simp only [Act.put, zA, zB, zC])) | (go_at_call 66; go_must ((with_reducible refine (NN _ _ HO).mono ?_); rintro e w ⟨rfl, hb⟩; replace HO := HO.call hb; clear hb)) | (go_at_call 79; go_must ((with_reducible refine (PL _ _ HO).mono ?_); clear HO; rintro e w ⟨rfl, v', HO⟩)))
    go_ret
    exact ⟨rfl, a.u, v', i, fun _ => rfl, HO.sub (by exact .cons_cons _ (.cons_cons _ (.cons_cons _ (.cons _ (List.Sublist.refl _)))))⟩
  · rw [show applyE S A x = stopE S.L x.o by unfold applyE; rw [if_neg (by omega), if_pos hk]]
    rw [show applyS S A x = { S with L := stopL S.L x.o } by unfold applyS; rw [if_neg (by omega), if_pos hk]]
    rw [show applyI A x = A by unfold applyI; rw [if_neg (by rw [hk]; simp)]]
    clear PL RP SN SY
    go_enter Tryz.func27, Tryz.ntmps27
    go_wp2_with (first | (((with_reducible apply wpList_loadOne HO); exact rfl; exact rfl; (repeat (with_reducible (exact At.head _))); exact rfl; infer_instance; exact rfl; (simp only [Act.put, zA, zB, zC]))) | (((with_reducible apply wpList_boxAgg _ HO rfl); exact rfl; exact rfl; exact rfl; clear HO; intro b1 w HO; (simp only [Act.put, zA, zB, zC]))) | (go_at_call 66; go_must ((with_reducible refine (NN _ _ HO).mono ?_); rintro e w ⟨rfl, hb⟩; replace HO := HO.call hb; clear hb)) | (go_at_call 80; go_must ((with_reducible refine (ST _ _ HO).mono ?_); clear HO; rintro e w ⟨rfl, HO⟩)))
    go_ret
    exact ⟨rfl, a.u, a.v, i, fun _ => rfl, HO.sub (by exact .cons_cons _ (.cons_cons _ (.cons_cons _ (.cons _ (List.Sublist.refl _)))))⟩
  · rw [show applyE S A x = replyE S.L x.o x.d x.c by unfold applyE; rw [if_neg (by omega), if_neg (by omega), if_pos hk]]
    rw [show applyS S A x = replyS S x.o x.d x.c by unfold applyS; rw [if_neg (by omega), if_neg (by omega), if_pos hk]]
    rw [show applyI A x = A by unfold applyI; rw [if_neg (by rw [hk]; simp)]]
    clear PL ST SN SY
    go_enter Tryz.func27, Tryz.ntmps27
    go_wp2_with (first | (((with_reducible apply wpList_loadOne HO); exact rfl; exact rfl; (repeat (with_reducible (exact At.head _))); exact rfl; infer_instance; exact rfl; (simp only [Act.put, zA, zB, zC]))) | (((with_reducible apply wpList_boxAgg _ HO rfl); exact rfl; exact rfl; exact rfl; clear HO; intro b1 w HO; (simp only [Act.put, zA, zB, zC]))) | ((with_reducible apply wpList_loadPart HO); exact rfl; exact rfl; (repeat (with_reducible (exact At.head _))); infer_instance; exact (Nat.le_of_ble_eq_true rfl); (simp only [List.drop_succ_cons, List.drop_zero, List.take_succ_cons, List.take_zero]; rfl); exact rfl; (simp only [Act.put, zA, zB, zC])) | (go_at_call 66; go_must ((with_reducible refine (NN _ _ HO).mono ?_); rintro e w ⟨rfl, hb⟩; replace HO := HO.call hb; clear hb)) | (go_at_call 81; go_must ((with_reducible refine (RP _ _ HO).mono ?_); clear HO; rintro e w ⟨rfl, u', HO⟩)))
    go_ret
    exact ⟨rfl, u', a.v, i, fun _ => rfl, HO.sub (by exact .cons_cons _ (.cons_cons _ (.cons_cons _ (.cons _ (List.Sublist.refl _)))))⟩
  · rw [show applyE S A x = accE A x.p x.q x.rs by unfold applyE; rw [if_neg (by omega), if_neg (by omega), if_neg (by omega), if_pos hk]]
    by_cases hn : accE A x.p x.q x.rs = 0
    · rw [show applyS S A x = { S with P := stmtP S.P (byI A (A.put x.p x.q x.rs)) x.q 60 } by unfold applyS; rw [if_neg (by omega), if_neg (by omega), if_neg (by omega), if_pos hk, if_pos hn]]
      rw [show applyI A x = A.put x.p x.q x.rs by unfold applyI; rw [if_pos ⟨hk, hn⟩]]
      have SY := SY hn
      rw [hn]
      clear PL ST SN RP
      go_enter Tryz.func27, Tryz.ntmps27
      go_wp2_with (first | (((with_reducible apply wpList_loadOne HO); exact rfl; exact rfl; (repeat (with_reducible (exact At.head _))); exact rfl; infer_instance; exact rfl; (simp only [Act.put, zA, zB, zC]))) | (((with_reducible apply wpList_boxAgg _ HO rfl); exact rfl; exact rfl; exact rfl; clear HO; intro b1 w HO; (simp only [Act.put, zA, zB, zC]))) | ((with_reducible apply wpList_loadPart HO); exact rfl; exact rfl; (repeat (with_reducible (exact At.head _))); infer_instance; exact (Nat.le_of_ble_eq_true rfl); (simp only [List.drop_succ_cons, List.drop_zero, List.take_succ_cons, List.take_zero]; rfl); exact rfl; (simp only [Act.put, zA, zB, zC])) | (go_at_call 66; go_must ((with_reducible refine (NN _ _ HO).mono ?_); rintro e w ⟨rfl, hb⟩; replace HO := HO.call hb; clear hb)) | (go_at_call 82; go_must ((with_reducible refine (SY _ _ HO).mono ?_); clear HO; rintro e w ⟨rfl, u', i', HO⟩)))
      go_ret
      exact ⟨rfl, u', a.v, i', fun h => absurd hk h, HO.sub (by exact .cons_cons _ (.cons_cons _ (.cons_cons _ (.cons_cons _ (.cons_cons _ (.cons_cons _ (.cons_cons _ (.cons _ (List.Sublist.refl _)))))))))⟩
    · rw [show applyS S A x = S by unfold applyS; rw [if_neg (by omega), if_neg (by omega), if_neg (by omega), if_pos hk, if_neg hn]]
      rw [show applyI A x = A by unfold applyI; rw [if_neg (fun h => hn h.2)]]
      have SN := SN hn
      clear PL ST SY RP
      generalize accE A x.p x.q x.rs = ex at *
      go_enter Tryz.func27, Tryz.ntmps27
      go_wp2_with (first | (((with_reducible apply wpList_loadOne HO); exact rfl; exact rfl; (repeat (with_reducible (exact At.head _))); exact rfl; infer_instance; exact rfl; (simp only [Act.put, zA, zB, zC]))) | (((with_reducible apply wpList_boxAgg _ HO rfl); exact rfl; exact rfl; exact rfl; clear HO; intro b1 w HO; (simp only [Act.put, zA, zB, zC]))) | ((with_reducible apply wpList_loadPart HO); exact rfl; exact rfl; (repeat (with_reducible (exact At.head _))); infer_instance; exact (Nat.le_of_ble_eq_true rfl); (simp only [List.drop_succ_cons, List.drop_zero, List.take_succ_cons, List.take_zero]; rfl); exact rfl; (simp only [Act.put, zA, zB, zC])) | (go_at_call 66; go_must ((with_reducible refine (NN _ _ HO).mono ?_); rintro e w ⟨rfl, hb⟩; replace HO := HO.call hb; clear hb)) | (go_at_call 82; go_must ((with_reducible refine (SN _ _ HO).mono ?_); clear HO; rintro e w ⟨rfl, HO⟩)))
      go_ret
      exact ⟨rfl, a.u, a.v, i, fun _ => rfl, HO.sub (by exact .cons_cons _ (.cons_cons _ (.cons_cons _ (.cons_cons _ (.cons_cons _ (.cons_cons _ (.cons_cons _ (.cons _ (List.Sublist.refl _)))))))))⟩
  · rw [show applyE S A x = 2 by unfold applyE; rw [if_neg h1, if_neg h2, if_neg h3, if_neg h4]]
    rw [show applyS S A x = S by unfold applyS; rw [if_neg h1, if_neg h2, if_neg h3, if_neg h4]]
    rw [show applyI A x = A by unfold applyI; rw [if_neg (fun h => h4 h.1)]]
    clear PL ST SN SY RP
    go_enter Tryz.func27, Tryz.ntmps27
    go_wp2_with (first | (((with_reducible apply wpList_loadOne HO); exact rfl; exact rfl; (repeat (with_reducible (exact At.head _))); exact rfl; infer_instance; exact rfl; (simp only [Act.put, zA, zB, zC]))) | (((with_reducible apply wpList_boxAgg _ HO rfl); exact rfl; exact rfl; exact rfl; clear HO; intro b1 w HO; (simp only [Act.put, zA, zB, zC]))) | (go_at_call 66; go_must ((with_reducible refine (NN _ _ HO).mono ?_); rintro e w ⟨rfl, hb⟩; replace HO := HO.call hb; clear hb)))
    go_ret
    exact ⟨rfl, a.u, a.v, i, fun _ => rfl, HO.tail⟩
end Go.Proofs.YtibabfedpdoofaaGreatDoor
namespace Go.Proofs.YtibabfedpdoofaaGreatDoor
open Go.RowKit Go.Own Go.Maps

theorem placeL_ok {L : List (OrdS × D6)} {o : OrdS} (hl : L.length ≤ 60) (h : ∀ x ∈ L, ordE x.1 = 0) : (placeL L o).length ≤ 60 ∧ ∀ x ∈ placeL L o, ordE x.1 = 0 := by
  unfold placeL
  split
  · rename_i h1
    unfold placeE at h1
    split at h1
    · rename_i h2; exact absurd h1 h2
    · rename_i h2
      split at h1
      · cases h1
      · split at h1
        · cases h1
        · refine ⟨by simp; omega, fun x hx => ?_⟩
          rcases List.mem_append.1 hx with hx | hx
          · exact h x hx
          · obtain rfl := List.mem_singleton.1 hx
            simpa using h2
  · exact ⟨hl, h⟩
theorem sagAt_ok {L : List (OrdS × D6)} {id : Int} {x : OrdS × D6} {t : D6} (hx : ordAt L id = some x) (hl : L.length ≤ 60) (h : ∀ x ∈ L, ordE x.1 = 0) : (sagAt L id (x.1, t)).length ≤ 60 ∧ ∀ z ∈ sagAt L id (x.1, t), ordE z.1 = 0 := by
  obtain ⟨j, hj, _, rfl⟩ := ordAt_some hx
  refine ⟨by simpa [sagAt] using hl, fun y hy => ?_⟩
  rcases List.mem_or_eq_of_mem_set hy with hy | rfl
  · exact h y hy
  · exact h L[j] (List.getElem_mem hj)
theorem postL_len1 (l : List Pst) (p : Pst) : (postL l p).length ≤ l.length + 1 := by
  unfold postL
  split
  · simp
  · omega
theorem applyS_ok {S : CoS} {A : InS} (h : CoOk S) (x : EntS) : CoOk (applyS S A x) ∧ (applyS S A x).P.length ≤ S.P.length + 60 := by
  unfold applyS
  split
  · exact ⟨⟨(placeL_ok h.len h.ord).1, (placeL_ok h.len h.ord).2, h.bk⟩, by simp⟩
  split
  · refine ⟨?_, by simp⟩
    show CoOk ⟨stopL S.L x.o, S.P⟩
    unfold stopL
    split
    · exact h
    · rename_i y hy
      split
      · exact h
      · exact ⟨(sagAt_ok hy h.len h.ord).1, (sagAt_ok hy h.len h.ord).2, h.bk⟩
  split
  · unfold replyS
    split
    · exact ⟨h, by omega⟩
    · rename_i y hy
      split
      · exact ⟨h, by omega⟩
      · refine ⟨⟨(sagAt_ok hy h.len h.ord).1, (sagAt_ok hy h.len h.ord).2, ?_⟩, ?_⟩
        · show Bk (replyP S.P _ _ _)
          unfold replyP
          split
          · exact h.bk.post _
          · split
            · exact h.bk.post _
            · exact h.bk
        · show (replyP S.P _ _ _).length ≤ _
          unfold replyP
          split
          · exact Nat.le_trans (postL_len1 _ _) (by omega)
          · split
            · exact Nat.le_trans (postL_len1 _ _) (by omega)
            · omega
  split
  · split
    · exact ⟨⟨h.len, h.ord, (stmtP_ok h.bk _ _ _).1⟩, (stmtP_ok h.bk _ _ _).2⟩
    · exact ⟨h, by omega⟩
  · exact ⟨h, by omega⟩
theorem applyI_ok {A : InS} (h : InOk A) (x : EntS) : InOk (applyI A x) := by
  unfold applyI
  split
  · rename_i h1
    exact put_ok h (accE_ok h1.2).1
  · exact h
theorem coNew_ok : CoOk ⟨[], []⟩ := ⟨by simp, by simp, .nil⟩
/-- What entries come to. -/
def coreS : CoS × InS → List EntS → CoS × InS := List.foldl (fun s x => (applyS s.1 s.2 x, applyI s.2 x))
def coreOf (l : List EntS) : CoS × InS := coreS (⟨[], []⟩, zeroI) l
theorem coreOf_snoc (l : List EntS) {j : Nat} (hj : j < l.length) : coreOf (l.take (j + 1)) = (applyS (coreOf (l.take j)).1 (coreOf (l.take j)).2 l[j], applyI (coreOf (l.take j)).2 l[j]) := by
  rw [coreOf, List.take_succ_eq_append_getElem hj, coreS, List.foldl_append]
  rfl
theorem coreOf_ok (l : List EntS) : ∀ j ≤ l.length, CoOk (coreOf (l.take j)).1 ∧ (coreOf (l.take j)).1.P.length ≤ 60 * j ∧ InOk (coreOf (l.take j)).2
  | 0, _ => ⟨coNew_ok, by simp [coreOf, coreS], zeroI_ok⟩
  | j + 1, h => by
    obtain ⟨h1, h2, h3⟩ := coreOf_ok l j (by omega)
    rw [coreOf_snoc l (by omega)]
    obtain ⟨h4, h5⟩ := applyS_ok (A := (coreOf (l.take j)).2) h1 l[j]
    exact ⟨h4, by dsimp only; omega, applyI_ok h3 _⟩
end Go.Proofs.YtibabfedpdoofaaGreatDoor
namespace Go.Proofs.YtibabfedpdoofaaGreatDoor
open Go.RowKit Go.Own Go.Maps

theorem dec_no45 (u : Nat) : (45 : UInt8) ∉ Lib.decDigits u := fun h => by
  have := (dec_digit u 45 h).1
  revert this
  decide
theorem split45 : ∀ {a b c d : List UInt8}, (45 : UInt8) ∉ a → (45 : UInt8) ∉ c → a ++ 45 :: b = c ++ 45 :: d → a = c ∧ b = d
  | [], b, [], d, _, _, h => ⟨rfl, by simpa using h⟩
  | [], b, y :: c, d, _, h2, h => by
    simp only [List.nil_append, List.cons_append, List.cons.injEq] at h
    exact absurd (by rw [← h.1]; exact List.mem_cons_self) h2
  | x :: a, b, [], d, h1, _, h => by
    simp only [List.nil_append, List.cons_append, List.cons.injEq] at h
    exact absurd (by rw [h.1]; exact List.mem_cons_self) h1
  | x :: a, b, y :: c, d, h1, h2, h => by
    simp only [List.cons_append, List.cons.injEq] at h
    obtain ⟨h3, h4⟩ := split45 (fun h => h1 (List.mem_cons_of_mem _ h)) (fun h => h2 (List.mem_cons_of_mem _ h)) h.2
    exact ⟨by rw [h.1, h3], h4⟩
theorem bytes_ext {a b : ByteArray} (h : a = b) : a.data.toList = b.data.toList := by rw [h]
theorem putK_list (o d : Int) : (putK o d).data.toList = Lib.itoa o ++ 45 :: deedL d := by simp [putK]
theorem sidK_list (q o : Int) : (sidK q o).data.toList = 115 :: (Lib.itoa q ++ 45 :: Lib.itoa o) := by simp [sidK]
theorem itoa_nat {o : Int} (h : 0 ≤ o) : Lib.itoa o = Lib.decDigits o.toNat := by
  have := Lib.itoa_nonneg o.toNat
  rwa [Int.toNat_of_nonneg h] at this
theorem deedL_inj {d d' : Int} (h0 : 0 ≤ d) (h5 : d ≤ 5) (h0' : 0 ≤ d') (h5' : d' ≤ 5) (h : deedL d = deedL d') : d = d' := by
  have h1 := deedsF_word h0 h5
  rw [h, deedsF_word h0' h5'] at h1
  simpa using h1.symm
theorem putK_inj {o d o' d' : Int} (h1 : 0 ≤ o) (h1' : 0 ≤ o') (h0 : 0 ≤ d) (h5 : d ≤ 5) (h0' : 0 ≤ d') (h5' : d' ≤ 5) (h : putK o d = putK o' d') : o = o' ∧ d = d' := by
  have h2 := bytes_ext h
  rw [putK_list, putK_list, itoa_nat h1, itoa_nat h1'] at h2
  obtain ⟨h3, h4⟩ := split45 (dec_no45 _) (dec_no45 _) h2
  have := dec_inj h3
  exact ⟨by omega, deedL_inj h0 h5 h0' h5' h4⟩
theorem sidK_inj {q o q' o' : Int} (h1 : 0 ≤ q) (h1' : 0 ≤ q') (h2 : 0 ≤ o) (h2' : 0 ≤ o') (h : sidK q o = sidK q' o') : q = q' ∧ o = o' := by
  have h3 := bytes_ext h
  rw [sidK_list, sidK_list, itoa_nat h1, itoa_nat h1', itoa_nat h2, itoa_nat h2', List.cons.injEq] at h3
  obtain ⟨h4, h5⟩ := split45 (dec_no45 _) (dec_no45 _) h3.2
  have h6 := dec_inj h4
  have h7 := dec_inj h5
  exact ⟨by omega, by omega⟩
theorem put_ne_sid {o d q o' : Int} (h1 : 0 ≤ o) : putK o d ≠ sidK q o' := fun h => by
  have h2 := bytes_ext h
  rw [putK_list, sidK_list, itoa_nat h1] at h2
  rcases hd : Lib.decDigits o.toNat with _ | ⟨x, l⟩
  · exact dec_ne _ hd
  · rw [hd, List.cons_append, List.cons.injEq] at h2
    have := (dec_digit o.toNat x (by rw [hd]; exact List.mem_cons_self)).2
    rw [h2.1] at this
    revert this
    decide
theorem putK_ne (o d : Int) : (putK o d).size ≠ 0 := by
  unfold putK
  rw [ByteArray.size_append, ByteArray.size_append]
  show _ + 1 + _ ≠ 0
  omega
theorem sidK_ne (q o : Int) : (sidK q o).size ≠ 0 := by
  unfold sidK
  rw [ByteArray.size_append, ByteArray.size_append, ByteArray.size_append]
  show 1 + _ + 1 + _ ≠ 0
  omega
/-- A small posting of an id of its own is posted. -/
theorem delta_small {p : Pst} {b : Int} (h : mayPst p = true) (h2 : p.a ≤ b) (hb : 0 ≤ b) (n o : Int) : -b ≤ delta p n o ∧ delta p n o ≤ b := by
  have := mayPst_iff.1 h
  unfold delta
  repeat' split
  all_goals omega
theorem bal_small {b : Int} (hb : 0 ≤ b) (n o : Int) : ∀ {l : List Pst}, (∀ p ∈ l, mayPst p = true ∧ p.a ≤ b) → -(b * (l.length : Int)) ≤ bal l n o ∧ bal l n o ≤ b * (l.length : Int)
  | [], _ => by simp [bal]
  | p :: l, h => by
    have h1 := bal_small hb n o (fun q hq => h q (List.mem_cons_of_mem _ hq))
    have h2 := delta_small (h p List.mem_cons_self).1 (h p List.mem_cons_self).2 hb n o
    simp only [bal, List.length_cons]
    rw [show ((l.length + 1 : Nat) : Int) = (l.length : Int) + 1 by omega, Int.mul_add, Int.mul_one]
    omega
theorem post_new {P : List Pst} {p : Pst} (h : ∀ q ∈ P, mayPst q = true ∧ q.a ≤ 2199023255552) (hl : P.length ≤ 100000) (hm : mayPst p = true) (ha : p.a ≤ 2199023255552) (hn : ∀ q ∈ P, q.id ≠ p.id) : postL P p = P ++ [p] := by
  unfold postL
  rw [if_pos]
  have h1 : findP P p.id = none := by
    unfold findP
    rw [List.find?_eq_none]
    intro q hq
    simpa using hn q hq
  have hx := mayPst_iff.1 hm
  have hb := fun n o => bal_small (b := 2199023255552) (by decide) n o h
  have e : (2199023255552 : Int) * (P.length : Int) ≤ 219902325555200000 := by omega
  rw [hm, h1]
  simp only [fitsPst, Bool.and_eq_true, inI_iff, Option.isNone_none, true_and]
  have b1 := hb p.d 0
  have b2 := hb p.c 0
  have b3 := hb p.d p.o
  have b4 := hb p.c p.o
  omega
end Go.Proofs.YtibabfedpdoofaaGreatDoor
namespace Go.Proofs.YtibabfedpdoofaaGreatDoor
open Go.RowKit Go.Own Go.Maps

/-- The document posts without looking. -/
def rawReply (P : List Pst) (id d by' : Int) : List Pst := if 0 < by' then P ++ [⟨putK id d, id, 1, 0, by'⟩] else if by' < 0 then P ++ [⟨putK id d, id, 3, 1, -by'⟩] else P
def rawReplyS (S : CoS) (id d code : Int) : CoS := match ordAt S.L id with
  | none => S
  | some x => match replyOf x.2 d code with
    | none => S
    | some t => ⟨sagAt S.L id (x.1, t), rawReply S.P id d (netS x.1 t - netS x.1 x.2)⟩
def rawStmt (P : List Pst) (f : Int → Int) (q : Int) : Nat → List Pst
  | 0 => P
  | k + 1 => if f ((k : Int) + 1) = 0 then rawStmt P f q k else rawStmt P f q k ++ [stPst q ((k : Int) + 1) (f ((k : Int) + 1))]
def rawS (S : CoS) (A : InS) (x : EntS) : CoS := if x.k = 1 then { S with L := placeL S.L x.ord } else if x.k = 2 then { S with L := stopL S.L x.o } else if x.k = 3 then rawReplyS S x.o x.d x.c else
  if x.k = 4 then (if accE A x.p x.q x.rs = 0 then { S with P := rawStmt S.P (byI A (A.put x.p x.q x.rs)) x.q 60 } else S) else S

/-! What a saga keeps. -/
theorem onOf_keeps (s : D6) : (s.b ≠ 0 → (onOf s).b = s.b) ∧ (s.e ≠ 0 → (onOf s).e = s.e) ∧ ((onOf s).b = s.b ∨ (onOf s).b = 1) ∧ ((onOf s).e = s.e ∨ (onOf s).e = 1) := by
  unfold onOf
  repeat' split
  all_goals (refine ⟨fun h => ?_, fun h => ?_, ?_, ?_⟩ <;> first | rfl | exact .inl rfl | exact .inr rfl | (exfalso; simp_all; done))
theorem waits_at {s : D6} (h : (waitsOf s).2 = true) : ((waitsOf s).1 = 0 ∧ s.a = 1) ∨ ((waitsOf s).1 = 1 ∧ s.b = 1) ∨ ((waitsOf s).1 = 2 ∧ s.c = 1) ∨ ((waitsOf s).1 = 3 ∧ s.d = 1) ∨ ((waitsOf s).1 = 4 ∧ s.e = 1) ∨ ((waitsOf s).1 = 5 ∧ s.f = 1) := by
  unfold waitsOf at h ⊢
  repeat' split at h
  all_goals simp_all
theorem reply_shape {s t : D6} {d code : Int} (h : replyOf s d code = some t) : (s.b = 2 → t.b = 2) ∧ (s.e = 2 → t.e = 2) ∧ (d ≠ 1 → t.b = 2 → s.b = 2) ∧ (d ≠ 4 → t.e = 2 → s.e = 2) ∧ (d = 1 → s.b = 1) ∧ (d = 4 → s.e = 1) := by
  unfold replyOf at h
  split at h
  · rename_i h1
    obtain ⟨hw, hd, hc⟩ := h1
    obtain rfl := Option.some.inj h
    obtain ⟨k1, k2, k3, k4⟩ := onOf_keeps (setD s d (code + 1))
    have hx := waits_at hw
    rw [hd] at hx
    rcases hx with ⟨rfl, h1⟩ | ⟨rfl, h1⟩ | ⟨rfl, h1⟩ | ⟨rfl, h1⟩ | ⟨rfl, h1⟩ | ⟨rfl, h1⟩ <;> simp only [setD] at k1 k2 k3 k4 ⊢ <;> simp at k1 k2 k3 k4 ⊢ <;> refine ⟨?_, ?_, ?_⟩ <;> intros <;> first | omega | (refine ⟨?_, ?_⟩ <;> intros <;> omega) | (refine ⟨?_, ?_, ?_⟩ <;> intros <;> omega) | skip
  · cases h
theorem stop_shape {s t : D6} (h : stopOf s = some t) : (s.b = 2 → t.b = 2) ∧ (s.e = 2 → t.e = 2) := by
  unfold stopOf at h
  split at h
  · rename_i h1
    have hw : (waitsOf s).2 = true := by
      unfold stateOf at h1
      repeat' split at h1
      all_goals simp_all
    obtain rfl := Option.some.inj h
    obtain ⟨k1, k2, k3, k4⟩ := onOf_keeps { setD s (waitsOf s).1 4 with x := true }
    have hx := waits_at hw
    generalize (waitsOf s).1 = d at *
    rcases hx with ⟨rfl, h1⟩ | ⟨rfl, h1⟩ | ⟨rfl, h1⟩ | ⟨rfl, h1⟩ | ⟨rfl, h1⟩ | ⟨rfl, h1⟩ <;> simp only [setD] at k1 k2 k3 k4 ⊢ <;> simp at k1 k2 k3 k4 ⊢ <;> refine ⟨?_, ?_⟩ <;> intros <;> omega
  · cases h
theorem reply_nets {o : OrdS} {s t : D6} {d code : Int} (h : replyOf s d code = some t) (hn : netS o t - netS o s ≠ 0) : (d = 1 ∧ s.b = 1 ∧ t.b = 2) ∨ (d = 4 ∧ s.e = 1 ∧ t.e = 2) := by
  obtain ⟨h1, h2, h3, h4, h5, h6⟩ := reply_shape h
  by_cases d1 : d = 1
  · subst d1
    have := h5 rfl
    by_cases tb : t.b = 2
    · exact .inl ⟨rfl, this, tb⟩
    · exfalso; apply hn
      unfold netS
      rw [if_neg (fun h => tb h.1), if_neg (fun h => by omega)]; rfl
  · by_cases d4 : d = 4
    · subst d4
      have := h6 rfl
      by_cases te : t.e = 2
      · exact .inr ⟨rfl, this, te⟩
      · exfalso; apply hn
        unfold netS
        have e1 : (t.b = 2 ∧ t.e ≠ 2) ↔ (s.b = 2 ∧ s.e ≠ 2) := ⟨fun h => ⟨h3 (by decide) h.1, by omega⟩, fun h => ⟨h1 h.1, te⟩⟩
        by_cases hc : s.b = 2 ∧ s.e ≠ 2
        · rw [if_pos hc, if_pos (e1.2 hc)]; omega
        · rw [if_neg hc, if_neg (fun h => hc (e1.1 h))]; rfl
    · exfalso; apply hn
      unfold netS
      have e1 : (t.b = 2 ∧ t.e ≠ 2) ↔ (s.b = 2 ∧ s.e ≠ 2) := ⟨fun h => ⟨h3 d1 h.1, fun he => h.2 (h2 he)⟩, fun h => ⟨h1 h.1, fun he => h.2 (h4 d4 he)⟩⟩
      by_cases hc : s.b = 2 ∧ s.e ≠ 2
      · rw [if_pos hc, if_pos (e1.2 hc)]; omega
      · rw [if_neg hc, if_neg (fun h => hc (e1.1 h))]; rfl

/-! What is posted is new. -/
def smallOk (p : Pst) : Prop := mayPst p = true ∧ p.a ≤ 2199023255552
def srcOk (L : List (OrdS × D6)) (q0 : Int) (p : Pst) : Prop :=
  (∃ (j : Nat) (d : Int) (x : OrdS × D6), L[j]? = some x ∧ p.id = putK ((j : Int) + 1) d ∧ ((d = 1 ∧ x.2.b = 2) ∨ (d = 4 ∧ x.2.e = 2))) ∨ (∃ s o : Int, p.id = sidK s o ∧ 0 ≤ s ∧ s ≤ q0 ∧ 0 ≤ o)
structure CoInv (S : CoS) (A : InS) : Prop where
  ok : CoOk S
  inok : InOk A
  q0 : 0 ≤ A.q0
  small : ∀ p ∈ S.P, smallOk p
  src : ∀ p ∈ S.P, srcOk S.L A.q0 p
theorem coInv_new : CoInv ⟨[], []⟩ zeroI := ⟨coNew_ok, zeroI_ok, by decide, by simp, by simp⟩
theorem srcOk.mono {L M : List (OrdS × D6)} {q r : Int} {p : Pst} (h : srcOk L q p) (hq : q ≤ r) (hL : ∀ (j : Nat) x, L[j]? = some x → ∃ y, M[j]? = some y ∧ (x.2.b = 2 → y.2.b = 2) ∧ (x.2.e = 2 → y.2.e = 2)) : srcOk M r p := by
  rcases h with ⟨j, d, x, h1, h2, h3⟩ | ⟨s, o, h1, h2, h3, h4⟩
  · obtain ⟨y, g1, g2, g3⟩ := hL j x h1
    exact .inl ⟨j, d, y, g1, h2, by rcases h3 with ⟨a, b⟩ | ⟨a, b⟩; exact .inl ⟨a, g2 b⟩; exact .inr ⟨a, g3 b⟩⟩
  · exact .inr ⟨s, o, h1, h2, by omega, h4⟩
theorem place_keeps (L : List (OrdS × D6)) (o : OrdS) : ∀ (j : Nat) x, L[j]? = some x → ∃ y, (placeL L o)[j]? = some y ∧ (x.2.b = 2 → y.2.b = 2) ∧ (x.2.e = 2 → y.2.e = 2) := fun j x h => by
  refine ⟨x, ?_, id, id⟩
  unfold placeL
  split
  · rw [List.getElem?_append_left (List.getElem?_eq_some_iff.1 h).1]; exact h
  · exact h
theorem sagAt_keeps {L : List (OrdS × D6)} {id : Int} {x : OrdS × D6} {t : D6} (hx : ordAt L id = some x) (hb : x.2.b = 2 → t.b = 2) (he : x.2.e = 2 → t.e = 2) : ∀ (j : Nat) y, L[j]? = some y → ∃ z, (sagAt L id (x.1, t))[j]? = some z ∧ (y.2.b = 2 → z.2.b = 2) ∧ (y.2.e = 2 → z.2.e = 2) := fun j y h => by
  obtain ⟨i, hi, rfl, rfl⟩ := ordAt_some hx
  unfold sagAt
  rw [show ((i : Int) + 1 - 1).toNat = i by omega]
  by_cases hj : i = j
  · subst hj
    rw [List.getElem?_eq_getElem hi] at h
    obtain rfl := Option.some.inj h
    exact ⟨_, List.getElem?_set_self hi, hb, he⟩
  · exact ⟨y, by rw [List.getElem?_set_ne hj]; exact h, id, id⟩
theorem rawStmt_eq {P : List Pst} {f : Int → Int} {q : Int} (hs : ∀ p ∈ P, smallOk p) (hn : ∀ p ∈ P, ∀ o : Int, 0 ≤ o → p.id ≠ sidK q o) (hq : 0 ≤ q) (hf : ∀ o, -2199023255552 ≤ f o ∧ f o ≤ 2199023255552) (hl : P.length ≤ 99000) :
    ∀ k : Nat, k ≤ 60 → rawStmt P f q k = stmtP P f q k ∧ (∀ p ∈ stmtP P f q k, smallOk p ∧ (p ∈ P ∨ ∃ o : Int, p.id = sidK q o ∧ 0 ≤ o ∧ o ≤ (k : Int))) ∧ (stmtP P f q k).length ≤ P.length + k
  | 0, _ => ⟨rfl, fun p hp => ⟨hs p hp, .inl hp⟩, Nat.le_refl _⟩
  | k + 1, hk => by
    obtain ⟨h1, h2, h3⟩ := rawStmt_eq hs hn hq hf hl k (by omega)
    unfold rawStmt stmtP
    by_cases h0 : f ((k : Int) + 1) = 0
    · rw [if_pos h0, if_pos h0]
      exact ⟨h1, fun p hp => ⟨(h2 p hp).1, by rcases (h2 p hp).2 with h | ⟨o, a, b, c⟩; exact .inl h; exact .inr ⟨o, a, b, by omega⟩⟩, by omega⟩
    · rw [if_neg h0, if_neg h0, h1]
      have hb := hf ((k : Int) + 1)
      have hid : (stPst q ((k : Int) + 1) (f ((k : Int) + 1))).id = sidK q ((k : Int) + 1) := by unfold stPst; split <;> rfl
      have hm : smallOk (stPst q ((k : Int) + 1) (f ((k : Int) + 1))) := by
        unfold stPst
        split
        · exact ⟨mayPst_iff.2 ⟨sidK_ne _ _, by dsimp only; omega, by dsimp only; omega, by dsimp only; omega, by dsimp only; omega, by dsimp only; omega, by dsimp only; omega, by dsimp only; omega⟩, by dsimp only; omega⟩
        · exact ⟨mayPst_iff.2 ⟨sidK_ne _ _, by dsimp only; omega, by dsimp only; omega, by dsimp only; omega, by dsimp only; omega, by dsimp only; omega, by dsimp only; omega, by dsimp only; omega⟩, by dsimp only; omega⟩
      have hnew := post_new (P := stmtP P f q k) (p := stPst q ((k : Int) + 1) (f ((k : Int) + 1))) (fun p hp => (h2 p hp).1) (by omega) hm.1 hm.2 (fun p hp he => by
        rw [hid] at he
        rcases (h2 p hp).2 with h | ⟨o, a, b, c⟩
        · exact hn p h _ (by omega) he
        · rw [a] at he
          have := (sidK_inj hq hq b (by omega) he).2
          omega)
      rw [hnew]
      refine ⟨rfl, fun p hp => ?_, by simp; omega⟩
      rcases List.mem_append.1 hp with hp | hp
      · exact ⟨(h2 p hp).1, by rcases (h2 p hp).2 with h | ⟨o, a, b, c⟩; exact .inl h; exact .inr ⟨o, a, b, by omega⟩⟩
      · obtain rfl := List.mem_singleton.1 hp
        exact ⟨hm, .inr ⟨_, hid, by omega, by omega⟩⟩
theorem stmt_zero {P : List Pst} {f : Int → Int} {q : Int} (hf : ∀ o, f o = 0) : ∀ k : Nat, rawStmt P f q k = P ∧ stmtP P f q k = P
  | 0 => ⟨rfl, rfl⟩
  | k + 1 => by
    unfold rawStmt stmtP
    rw [if_pos (hf _), if_pos (hf _)]
    exact stmt_zero hf k
theorem byI_zero {A : InS} {p q : Int} {rs : List RowS} (hp : p ≠ 0) (o : Int) : byI A (A.put p q rs) o = 0 := by
  have h : ∀ d, partyOf d = 0 → rowOf (A.put p q rs) o d = rowOf A o d := fun d hd => by
    unfold rowOf
    rw [hd]
    have : (A.put p q rs).rows 0 = A.rows 0 := by
      show (A.put p q rs).r0 = A.r0
      unfold InS.put
      rw [if_neg hp]
      split <;> rfl
    rw [this]
  unfold byI netI
  rw [h 1 (by decide), h 4 (by decide)]
  omega
theorem byI_bound {A B : InS} (h : InOk A) (h2 : InOk B) (o : Int) : -2199023255552 ≤ byI A B o ∧ byI A B o ≤ 2199023255552 := by
  have h3 := netI_bound h o
  have h4 := netI_bound h2 o
  unfold byI
  omega

/-- What the document's core comes to is what the program's does. -/
theorem coInv_step {S : CoS} {A : InS} (h : CoInv S A) (hl : S.P.length ≤ 99000) (x : EntS) : rawS S A x = applyS S A x ∧ CoInv (applyS S A x) (applyI A x) := by
  have hok := (applyS_ok (A := A) h.ok x).1
  have hin := applyI_ok h.inok x
  unfold rawS applyS applyI at *
  by_cases k1 : x.k = 1
  · rw [if_pos k1] at hok
    rw [if_neg (by rw [k1]; simp)] at hin
    rw [if_pos k1, if_pos k1, if_neg (by rw [k1]; simp)]
    exact ⟨rfl, hok, hin, h.q0, h.small, fun p hp => (h.src p hp).mono (Int.le_refl _) (place_keeps _ _)⟩
  rw [if_neg k1] at hok
  rw [if_neg k1, if_neg k1]
  by_cases k2 : x.k = 2
  · rw [if_pos k2] at hok
    rw [if_neg (by rw [k2]; simp)] at hin
    rw [if_pos k2, if_pos k2, if_neg (by rw [k2]; simp)]
    refine ⟨rfl, hok, hin, h.q0, h.small, fun p hp => (h.src p hp).mono (Int.le_refl _) ?_⟩
    intro j y hy
    show ∃ z, (stopL S.L x.o)[j]? = some z ∧ _
    unfold stopL
    cases ho : ordAt S.L x.o with
    | none => exact ⟨y, hy, id, id⟩
    | some z =>
      simp only
      cases hs : stopOf z.2 with
      | none => exact ⟨y, hy, id, id⟩
      | some t => exact sagAt_keeps ho (stop_shape hs).1 (stop_shape hs).2 j y hy
  rw [if_neg k2] at hok
  rw [if_neg k2, if_neg k2]
  by_cases k3 : x.k = 3
  · rw [if_pos k3] at hok
    rw [if_neg (by rw [k3]; simp)] at hin
    rw [if_pos k3, if_pos k3, if_neg (by rw [k3]; simp)]
    unfold rawReplyS
    unfold replyS at hok ⊢
    cases ho : ordAt S.L x.o with
    | none => exact ⟨rfl, h⟩
    | some y =>
      rw [ho] at hok
      simp only at hok ⊢
      cases hr : replyOf y.2 x.d x.c with
      | none => exact ⟨rfl, h⟩
      | some t =>
        rw [hr] at hok
        simp only at hok ⊢
        obtain ⟨j, hj, hid, rfl⟩ := ordAt_some ho
        obtain ⟨s1, s2, _⟩ := reply_shape hr
        have hdd := replyOf_deed hr
        have hkeep := sagAt_keeps (t := t) ho s1 s2
        have hnow : (sagAt S.L x.o (S.L[j].1, t))[j]? = some (S.L[j].1, t) := by
          unfold sagAt
          rw [hid, show ((j : Int) + 1 - 1).toNat = j by omega, List.getElem?_set_self hj]
        have b1 := netS_bound (h.ok.ord _ (List.getElem_mem hj)) t
        have b2 := netS_bound (h.ok.ord _ (List.getElem_mem hj)) S.L[j].2
        have hsrc : ∀ p ∈ S.P, srcOk (sagAt S.L x.o (S.L[j].1, t)) A.q0 p := fun p hp => (h.src p hp).mono (Int.le_refl _) hkeep
        by_cases hz : netS S.L[j].1 t - netS S.L[j].1 S.L[j].2 = 0
        · have e1 : ∀ P, rawReply P x.o x.d (netS S.L[j].1 t - netS S.L[j].1 S.L[j].2) = P := fun P => by rw [hz]; rfl
          have e2 : ∀ P, replyP P x.o x.d (netS S.L[j].1 t - netS S.L[j].1 S.L[j].2) = P := fun P => by rw [hz]; rfl
          rw [e2] at hok
          rw [e1, e2]
          exact ⟨rfl, hok, hin, h.q0, h.small, hsrc⟩
        · have hd := reply_nets hr hz
          have hnew : ∀ p ∈ S.P, p.id ≠ putK x.o x.d := fun p hp he => by
            rcases h.src p hp with ⟨i, d, y, g1, g2, g3⟩ | ⟨s, o, g1, _, _, _⟩
            · rw [g2] at he
              obtain ⟨e1, e2⟩ := putK_inj (by omega) (by omega) (by omega) (by omega) hdd.1 hdd.2 he
              have : i = j := by omega
              subst this
              rw [List.getElem?_eq_getElem hj] at g1
              obtain rfl := Option.some.inj g1
              omega
            · rw [g1] at he
              exact put_ne_sid (by omega) he.symm
          have hmk : ∀ (a b c : Int), 0 ≤ a → a ≤ 4 → 0 ≤ b → b ≤ 4 → a ≠ b → 0 ≤ c → c ≤ 1099511627776 → smallOk ⟨putK x.o x.d, x.o, a, b, c⟩ := fun a b c h1 h2 h3 h4 h5 h6 h7 => ⟨mayPst_iff.2 ⟨putK_ne _ _, by dsimp only; omega, h1, h2, h3, h4, h5, h6⟩, by dsimp only; omega⟩
          have hsrc' : ∀ (p : Pst), p.id = putK x.o x.d → srcOk (sagAt S.L x.o (S.L[j].1, t)) A.q0 p := fun p hp => .inl ⟨j, x.d, _, hnow, by rw [hp, hid], by rcases hd with ⟨a, _, c⟩ | ⟨a, _, c⟩; exact .inl ⟨a, c⟩; exact .inr ⟨a, c⟩⟩
          have key : ∀ (p : Pst), p.id = putK x.o x.d → smallOk p → postL S.P p = S.P ++ [p] := fun p hp hs => post_new (fun q hq => h.small q hq) (by omega) hs.1 hs.2 (fun q hq => by rw [hp]; exact hnew q hq)
          have fin : ∀ (p : Pst), p.id = putK x.o x.d → smallOk p → (∀ q ∈ S.P ++ [p], smallOk q) ∧ (∀ q ∈ S.P ++ [p], srcOk (sagAt S.L x.o (S.L[j].1, t)) A.q0 q) := fun p hp hs => by
            refine ⟨fun q hq => ?_, fun q hq => ?_⟩
            · rcases List.mem_append.1 hq with hq | hq
              · exact h.small q hq
              · rw [List.mem_singleton.1 hq]; exact hs
            · rcases List.mem_append.1 hq with hq | hq
              · exact hsrc q hq
              · rw [List.mem_singleton.1 hq]; exact hsrc' p hp
          unfold rawReply
          unfold replyP at hok ⊢
          by_cases c1 : 0 < netS S.L[j].1 t - netS S.L[j].1 S.L[j].2
          · rw [if_pos c1] at hok
            rw [if_pos c1, if_pos c1]
            have hs := hmk 1 0 _ (by decide) (by decide) (by decide) (by decide) (by decide) (Int.le_of_lt c1) (by omega)
            rw [key _ rfl hs] at hok ⊢
            exact ⟨rfl, hok, hin, h.q0, (fin _ rfl hs).1, (fin _ rfl hs).2⟩
          · have c2 : netS S.L[j].1 t - netS S.L[j].1 S.L[j].2 < 0 := by omega
            rw [if_neg c1, if_pos c2] at hok
            rw [if_neg c1, if_pos c2, if_neg c1, if_pos c2]
            have hs := hmk 3 1 (-(netS S.L[j].1 t - netS S.L[j].1 S.L[j].2)) (by decide) (by decide) (by decide) (by decide) (by decide) (by omega) (by omega)
            rw [key _ rfl hs] at hok ⊢
            exact ⟨rfl, hok, hin, h.q0, (fin _ rfl hs).1, (fin _ rfl hs).2⟩
  rw [if_neg k3] at hok
  rw [if_neg k3, if_neg k3]
  by_cases k4 : x.k = 4
  · rw [if_pos k4] at hok
    rw [if_pos k4, if_pos k4]
    by_cases ha : accE A x.p x.q x.rs = 0
    · rw [if_pos ha] at hok
      rw [if_pos ⟨k4, ha⟩] at hin
      rw [if_pos ha, if_pos ha, if_pos ⟨k4, ha⟩]
      obtain ⟨hst, hsq⟩ := accE_ok ha
      obtain ⟨_, _, p0, p2, _, _⟩ := okStmt_ok hst
      by_cases hp : x.p = 0
      · have hq : A.q0 < x.q := by rw [hp] at hsq; exact hsq
        have hz := h.q0
        obtain ⟨h1, h2, _⟩ := rawStmt_eq (q := x.q) (f := byI A (A.put x.p x.q x.rs)) h.small (fun p hp o ho he => by
          rcases h.src p hp with ⟨i, d, y, g1, g2, g3⟩ | ⟨s, o', g1, g2, g3, g4⟩
          · rw [g2] at he
            exact put_ne_sid (by omega) he
          · rw [g1] at he
            have := (sidK_inj g2 (by omega) g4 ho he).1
            omega) (by omega) (byI_bound h.inok hin) hl 60 (Nat.le_refl _)
        rw [h1]
        have hq0 : (A.put x.p x.q x.rs).q0 = x.q := by unfold InS.put; rw [if_pos hp]
        refine ⟨rfl, hok, hin, by omega, fun p hp => (h2 p hp).1, fun p hp => ?_⟩
        rcases (h2 p hp).2 with g | ⟨o, g1, g2, g3⟩
        · exact (h.src p g).mono (by omega) (fun j y hy => ⟨y, hy, id, id⟩)
        · exact .inr ⟨x.q, o, g1, by omega, by omega, g2⟩
      · obtain ⟨e1, e2⟩ := stmt_zero (P := S.P) (f := byI A (A.put x.p x.q x.rs)) (q := x.q) (byI_zero hp) 60
        rw [e2] at hok
        rw [e1, e2]
        have hq0 : (A.put x.p x.q x.rs).q0 = A.q0 := by unfold InS.put; rw [if_neg hp]; split <;> rfl
        exact ⟨rfl, hok, hin, by rw [hq0]; exact h.q0, h.small, by rw [hq0]; exact h.src⟩
    · rw [if_neg ha, if_neg ha, if_neg (fun hh => ha hh.2)]
      exact ⟨rfl, h⟩
  · rw [if_neg k4, if_neg k4, if_neg (fun hh => k4 hh.1)]
    exact ⟨rfl, h⟩
theorem coreOf_inv (l : List EntS) (hl : l.length ≤ 1000) : ∀ j ≤ l.length, CoInv (coreOf (l.take j)).1 (coreOf (l.take j)).2
  | 0, _ => coInv_new
  | j + 1, h => by
    have h1 := coreOf_inv l hl j (by omega)
    rw [coreOf_snoc l (by omega)]
    exact (coInv_step h1 (by have := (coreOf_ok l j (by omega)).2.1; omega) l[j]).2
/-! An order's number is its place. -/
def idsOk (L : List (OrdS × D6)) : Prop := ∀ (j : Nat) x, L[j]? = some x → x.1.id = (j : Int) + 1
theorem place_ids {L : List (OrdS × D6)} (h : idsOk L) (o : OrdS) : idsOk (placeL L o) := fun j x hx => by
  unfold placeL at hx
  split at hx
  · rename_i h0
    have ho : o.id = (L.length : Int) + 1 := by
      unfold placeE at h0
      repeat' split at h0
      all_goals first | (cases h0; done) | omega | skip
      all_goals (rename_i hh; exact Classical.not_not.1 hh)
    by_cases hj : j < L.length
    · rw [List.getElem?_append_left hj] at hx
      exact h j x hx
    · rw [List.getElem?_append_right (by omega)] at hx
      have h1 : j - L.length = 0 := by
        rcases Nat.eq_zero_or_pos (j - L.length) with h2 | h2
        · exact h2
        · rw [List.getElem?_eq_none (by simp; omega)] at hx
          cases hx
      rw [h1] at hx
      obtain rfl : (o, beginD) = x := by simpa using hx
      show o.id = _
      omega
  · exact h j x hx
theorem sagAt_ids {L : List (OrdS × D6)} {id : Int} {x : OrdS × D6} {t : D6} (h : idsOk L) (hx : ordAt L id = some x) : idsOk (sagAt L id (x.1, t)) := fun j y hy => by
  obtain ⟨i, hi, rfl, rfl⟩ := ordAt_some hx
  unfold sagAt at hy
  rw [show ((i : Int) + 1 - 1).toNat = i by omega] at hy
  by_cases hj : i = j
  · subst hj
    rw [List.getElem?_set_self hi] at hy
    obtain rfl := Option.some.inj hy
    exact h i L[i] (List.getElem?_eq_getElem hi)
  · rw [List.getElem?_set_ne hj] at hy
    exact h j y hy
theorem ids_step {S : CoS} {A : InS} (h : idsOk S.L) (x : EntS) : idsOk (applyS S A x).L := by
  unfold applyS
  split
  · exact place_ids h _
  split
  · show idsOk (stopL S.L x.o)
    unfold stopL
    split
    · exact h
    · rename_i y hy
      split
      · exact h
      · exact sagAt_ids h hy
  split
  · unfold replyS
    split
    · exact h
    · rename_i y hy
      split
      · exact h
      · exact sagAt_ids h hy
  split
  · split
    · exact h
    · exact h
  · exact h
theorem coreOf_ids (l : List EntS) : ∀ j ≤ l.length, idsOk (coreOf (l.take j)).1.L
  | 0, _ => fun j x hx => by cases hx
  | j + 1, h => by
    rw [coreOf_snoc l (by omega)]
    exact ids_step (coreOf_ids l j (by omega)) l[j]
end Go.Proofs.YtibabfedpdoofaaGreatDoor
namespace Go.Proofs.YtibabfedpdoofaaGreatDoor
open Go.RowKit Go.Own Go.Maps

set_option maxHeartbeats 4000000 in
set_option maxRecDepth 100000 in
theorem refPut01_any {n : Int} (h0 : 0 ≤ n) (h1 : n ≤ 9223372036854775807) (W : World) : Calls Tryz.prog 115 #[.int .i64 n] W fun e w' => e = .returned (.string ⟨(Lib.itoa n).toArray⟩) ∧ Below W.heap.size W w' := by
  have HO := Own.start W
  obtain ⟨m, rfl⟩ : ∃ m : Nat, n = (m : Int) := ⟨n.toNat, by omega⟩
  have RD := fun w => refDigits_any (n := m) (by omega) w
  have e1 : IntKind.u64.wrap (m : Int) = (m : Int) := by rw [IntKind.wrap_u64]; omega
  have hm : ¬ ((m : Int) < 0) := by omega
  rw [Lib.itoa_nonneg]
  go_enter Tryz.func115, Tryz.ntmps115
  go_wp2_with ((go_at_call 145; go_must ((with_reducible refine (RD _).mono ?_); rintro e w ⟨rfl, hb⟩; replace HO := HO.call hb; clear hb)))
  go_ret
  exact ⟨rfl, HO.grown⟩

set_option maxHeartbeats 4000000 in
set_option maxRecDepth 100000 in
theorem refWords_any (W : World) : Calls Tryz.prog 176 #[] W fun e w' => e = .returned (.agg #[.string ⟨#[114, 101, 115, 101, 114, 118, 101]⟩, .string ⟨#[99, 104, 97, 114, 103, 101]⟩, .string ⟨#[115, 104, 105, 112]⟩, .string ⟨#[114, 101, 108, 101, 97, 115, 101]⟩, .string ⟨#[114, 101, 102, 117, 110, 100]⟩, .string ⟨#[118, 111, 105, 100]⟩]) ∧ Below W.heap.size W w' := by
  have HO := Own.start W
  go_enter Tryz.func176, Tryz.ntmps176
  go_wp2_with (first | ((with_reducible apply wpList_storeAll HO); exact rfl; exact rfl; exact rfl; (repeat (with_reducible (exact At.head _))); infer_instance; exact rfl; exact rfl; exact rfl; exact rfl; clear HO; intro w HO; (simp only [Act.put])) | (((with_reducible apply wpList_allocAgg _ HO rfl); exact rfl; infer_instance; exact rfl; clear HO; intro b1 w HO; (simp only [Act.put, List.setIfInBounds_toArray, List.set_cons_zero]))))
  refine bodyPost_ret (results_one HO rfl rfl (by (repeat (with_reducible (exact At.head _)))) inferInstance rfl) rfl ?_
  exact ⟨rfl, HO.grown⟩

set_option maxHeartbeats 8000000 in
set_option maxRecDepth 100000 in
theorem refWord_any {d : Int} (h0 : 0 ≤ d) (h5 : d ≤ 5) (W : World) : Calls Tryz.prog 162 #[.int .i64 d] W fun e w' => e = .returned (.string ⟨(deedL d).toArray⟩) ∧ Below W.heap.size W w' := by
  have HO := Own.start W
  have hd : d = 0 ∨ d = 1 ∨ d = 2 ∨ d = 3 ∨ d = 4 ∨ d = 5 := by omega
  have WD := fun w => refWords_any w
  rcases hd with rfl | rfl | rfl | rfl | rfl | rfl
  all_goals
    go_enter Tryz.func162, Tryz.ntmps162
    go_wp2_with (first | (go_at_call 176; go_must ((with_reducible refine (WD _).mono ?_); rintro e w ⟨rfl, hb⟩; replace HO := HO.call hb; clear hb)) | ((with_reducible apply wpList_indexOne (i := 0)); exact rfl; exact rfl; exact rfl; exact Tryz.underlying243; exact (by decide); infer_instance; exact rfl; exact rfl; (simp only [Act.put, zA, zB, zC])) | ((with_reducible apply wpList_indexOne (i := 1)); exact rfl; exact rfl; exact rfl; exact Tryz.underlying243; exact (by decide); infer_instance; exact rfl; exact rfl; (simp only [Act.put, zA, zB, zC])) | ((with_reducible apply wpList_indexOne (i := 2)); exact rfl; exact rfl; exact rfl; exact Tryz.underlying243; exact (by decide); infer_instance; exact rfl; exact rfl; (simp only [Act.put, zA, zB, zC])) | ((with_reducible apply wpList_indexOne (i := 3)); exact rfl; exact rfl; exact rfl; exact Tryz.underlying243; exact (by decide); infer_instance; exact rfl; exact rfl; (simp only [Act.put, zA, zB, zC])) | ((with_reducible apply wpList_indexOne (i := 4)); exact rfl; exact rfl; exact rfl; exact Tryz.underlying243; exact (by decide); infer_instance; exact rfl; exact rfl; (simp only [Act.put, zA, zB, zC])) | ((with_reducible apply wpList_indexOne (i := 5)); exact rfl; exact rfl; exact rfl; exact Tryz.underlying243; exact (by decide); infer_instance; exact rfl; exact rfl; (simp only [Act.put, zA, zB, zC])))
    go_ret
    exact ⟨rfl, HO.grown⟩

set_option maxHeartbeats 8000000 in
set_option maxRecDepth 100000 in
theorem refKeyPut_any {o d : Int} (hk : keyOk o d = true) (W : World) : Calls Tryz.prog 135 #[.agg #[.int .i64 o, .int .i64 d]] W fun e w' => e = .returned (.string (putK o d)) ∧ Below W.heap.size W w' := by
  have HO := Own.start W
  have h1 : 1 ≤ o ∧ o ≤ 60 ∧ 0 ≤ d ∧ d ≤ 5 := by
    simp only [keyOk, isDeed, Bool.and_eq_true, decide_eq_true_eq] at hk
    omega
  have KC := fun w => refKeyCheck_any o d w
  rw [hk] at KC
  have MP := fun w => refPut01_any (n := o) (by omega) (by omega) w
  have WD := fun w => refWord_any h1.2.2.1 h1.2.2.2 w
  have hlen := Lib.itoa_length_le o (by omega) (by omega)
  have s1 : (⟨(Lib.itoa o).toArray⟩ : ByteArray).size ≤ 21 := hlen
  have s2 : (⟨(deedL d).toArray⟩ : ByteArray).size ≤ 7 := by
    show (deedL d).length ≤ 7
    unfold deedL
    repeat' split
    all_goals decide
  have c1 : ¬ (9223372036854775807 < (⟨(Lib.itoa o).toArray⟩ : ByteArray).size + (⟨#[45]⟩ : ByteArray).size) := by
    show ¬ (9223372036854775807 < (⟨(Lib.itoa o).toArray⟩ : ByteArray).size + 1); omega
  have c2 : ¬ (9223372036854775807 < (⟨(Lib.itoa o).toArray⟩ : ByteArray).size + 1) := by omega
  have e1 : ((⟨(Lib.itoa o).toArray⟩ : ByteArray) ++ ⟨#[45]⟩).size = (⟨(Lib.itoa o).toArray⟩ : ByteArray).size + 1 := by rw [ByteArray.size_append]; rfl
  have c3 : ¬ (9223372036854775807 < ((⟨(Lib.itoa o).toArray⟩ : ByteArray) ++ ⟨#[45]⟩).size + (⟨(deedL d).toArray⟩ : ByteArray).size) := by rw [e1]; omega
  have c4 : ¬ (9223372036854775807 < (⟨(Lib.itoa o).toArray⟩ : ByteArray).size + 1 + (⟨(deedL d).toArray⟩ : ByteArray).size) := by omega
  have HP := Lib.hid (show putK o d = (⟨(Lib.itoa o).toArray⟩ : ByteArray) ++ ⟨#[45]⟩ ++ ⟨(deedL d).toArray⟩ from rfl)
  generalize putK o d = y at *
  generalize (⟨(Lib.itoa o).toArray⟩ : ByteArray) = x1 at *
  generalize (⟨(deedL d).toArray⟩ : ByteArray) = x2 at *
  clear hk h1 hlen s1 s2 e1
  go_enter Tryz.func135, Tryz.ntmps135
  go_wp2_with (first | (((with_reducible apply wpList_loadAll HO); exact rfl; exact rfl; (repeat (with_reducible (exact At.head _))); infer_instance; exact rfl; exact rfl; (simp only [Act.put, zA, zB, zC]))) | (((with_reducible apply wpList_boxAgg _ HO rfl); exact rfl; exact rfl; exact rfl; clear HO; intro b3 w HO; (simp only [Act.put, zA, zB, zC]))) | (go_at_call 161; go_must ((with_reducible refine (KC _).mono ?_); rintro e w ⟨rfl, hb⟩; replace HO := HO.call hb; clear hb)))
  refine region_own HO (by kernel_rfl) (by kernel_rfl) ?_
  clear HO
  intro F HF
  repeat (first | (((with_reducible apply wpQuiet_loadOne HF); exact rfl; exact rfl; (repeat (with_reducible (exact At.head _))); exact rfl; infer_instance; exact rfl; (simp only [Act.put, zA, zB, zC]))) | go_big_quiet_step ((first | (go_at_call 115; (with_reducible exact calls_fam HF (MP _))) | (go_at_call 162; (with_reducible exact calls_fam HF (WD _))))))
  refine wpQuiet_nil ?_
  intro x
  have HO := HF.own x
  clear HF
  generalize F x = w at *
  clear x F
  go_wp2_with fail
  go_ret
  exact ⟨by rw [HP.out]; rfl, HO.grown⟩

set_option maxHeartbeats 8000000 in
set_option maxRecDepth 100000 in
theorem digits24_any : ∀ (n : Nat), n < 9223372036854775808 → ∀ W : World, Calls Tryz.prog 91 #[.int .i64 (n : Int)] W fun e w' => e = .returned (.string ⟨(Lib.decDigits n).toArray⟩) ∧ Below W.heap.size W w' := fun n => by
  induction n using Nat.strongRecOn with
  | ind n ih =>
    intro hn W
    have HO := Own.start W
    obtain ⟨k, hk⟩ : ∃ k, k = n % 10 := ⟨_, rfl⟩
    obtain ⟨q, hq⟩ : ∃ q, q = n / 10 := ⟨_, rfl⟩
    have hk10 : k < 10 := by omega
    have hk58 : 48 + k < 256 := by omega
    have e1 : (n : Int).tmod 10 = (k : Int) := by rw [Int.tmod_eq_emod_of_nonneg (by omega), hk]; rfl
    have e2 : (n : Int).tdiv 10 = (q : Int) := by rw [Int.tdiv_eq_ediv_of_nonneg (by omega), hq]; rfl
    have e3 : IntKind.i64.wrap (48 + (k : Int)) = 48 + (k : Int) := by rw [wrap_in (inI_iff.2 (by omega))]
    have e4 : IntKind.u8.wrap (48 + (k : Int)) = 48 + (k : Int) := by rw [IntKind.wrap_u8]; omega
    have e5 : IntKind.i64.wrap (q : Int) = (q : Int) := by rw [wrap_in (inI_iff.2 (by omega))]
    have e6 : IntKind.i64.wrap (k : Int) = (k : Int) := by rw [wrap_in (inI_iff.2 (by omega))]
    by_cases h10 : n < 10
    · have hc : ¬ ((10 : Int) ≤ (n : Int)) := by omega
      have HD := Lib.hid (show Lib.decDigits n = [UInt8.ofNat (48 + k)] by rw [Lib.decDigits, dif_pos h10, hk, Nat.mod_eq_of_lt h10])
      clear ih hq hk e2 e5
      go_enter Tryz.func91, Tryz.ntmps91
      go_wp2_with (first | (((with_reducible apply wpList_lit1c HO); exact rfl; infer_instance; infer_instance; ((simp [Act.eval]; rfl)); exact rfl; exact rfl; clear HO; intro bb w HO; (simp only [Act.put, zA, zB, zC]))) | ((with_reducible apply wpList_strOne (n := 48 + k) HO); exact rfl; exact rfl; (repeat (with_reducible (exact At.head _))); (omega); exact Tryz.underlying23; exact Tryz.underlying5; exact Tryz.underlying9; (omega); exact rfl; (simp only [Act.put, zA, zB, zC])))
      go_ret
      exact ⟨by rw [HD.out, UInt8.ofNat_add]; rfl, HO.grown⟩
    · have hc : (10 : Int) ≤ (n : Int) := by omega
      have IH := fun w => ih q (by omega) (by omega) w
      have HD := Lib.hid (show Lib.decDigits n = Lib.decDigits q ++ [UInt8.ofNat (48 + k)] by rw [Lib.decDigits, dif_neg h10, hq, hk])
      have hlen : (Lib.decDigits q).length ≤ 25 := by
        have := Lib.itoa_length_le (q : Int) (by omega) (by omega)
        rw [Lib.itoa_nonneg] at this
        omega
      have c1 : ¬ (9223372036854775807 < (Lib.decDigits q).length + 1) := by omega
      have c2 : ¬ (9223372036854775807 < (⟨(Lib.decDigits q).toArray⟩ : ByteArray).size + (⟨#[UInt8.ofNat (48 + k)]⟩ : ByteArray).size) := by
        show ¬ (9223372036854775807 < (Lib.decDigits q).length + 1); omega
      generalize Lib.decDigits q = dq at *
      clear ih hq hk hlen
      go_enter Tryz.func91, Tryz.ntmps91
      go_wp2_with (first | (((with_reducible apply wpList_lit1c HO); exact rfl; infer_instance; infer_instance; ((simp [Act.eval]; rfl)); exact rfl; exact rfl; clear HO; intro bb w HO; (simp only [Act.put, zA, zB, zC]))) | ((with_reducible apply wpList_strOne (n := 48 + k) HO); exact rfl; exact rfl; (repeat (with_reducible (exact At.head _))); (omega); exact Tryz.underlying23; exact Tryz.underlying5; exact Tryz.underlying9; (omega); exact rfl; (simp only [Act.put, zA, zB, zC])) | (go_at_call 91; go_must ((with_reducible refine (IH _).mono ?_); rintro e w ⟨rfl, hb⟩; replace HO := HO.call hb; clear hb)))
      go_ret
      exact ⟨by rw [HD.out, UInt8.ofNat_add]; first | rfl | (congr 3; simp) | simp, HO.grown⟩
end Go.Proofs.YtibabfedpdoofaaGreatDoor
namespace Go.Own
open Go.RowKit
theorem wpList_lit0 {P : Program} {ops : Array Oper} {rest : List Oper} {o : Oper} {a : Act} {W w : World} {Q : Exit → Act → World → Prop} {L : List Ent} {t e k by' : Nat} (hO : Own W w L) (ho : o.op = .buildSlice t 0 #[]) (ht : IsSlice P t e) (he : IsElem P e k by')
    (hw : Region.wanted o (yielded ops a.tmps) = true) (h : ∀ b w', Own W w' (row e k (.slice (some ⟨b, 0, none⟩) 0 0) [] :: L) → wpList P ops Q rest (a.put o.dst (.slice (some ⟨b, 0, none⟩) 0 0)) w') : wpList P ops Q (o :: rest) a w := by
  have h1 := he.out
  have hpos := he.pos
  cases hi : P.info? e with
  | none => simp [hi] at h1
  | some i =>
    cases hzz : i.zero with
    | none => simp [hi, hzz] at h1
    | some zv =>
      simp only [hi, hzz, Option.bind_some, Option.map_some, Option.some.injEq, Prod.mk.injEq] at h1
      obtain ⟨h2, h3, _⟩ := h1
      have hr : (execOp a.eval o).run P w = .ok (.value (.slice (some ⟨w.heap.size, 0, none⟩) 0 0)) (w.alloc (.cells #[] e)) := by
        unfold execOp
        simp only [ho, Instr.buildSlice]
        simp [underlying, ht.out, sizeOf, typeInfo, hi, newRow, Instr.fill, show Array.range 0 = #[] by simp [Array.range]]
      refine wpList_value hw hr (h _ _ (hO.more ((Below.refl _ _).alloc (Nat.le_refl _) _) (row_ok _ _ _ _) (World.ownsRow_made w #[] 0 (Nat.zero_le _) (Nat.zero_le _) (by simp)) (fun b hb => ?_) (fun b hb => ?_)))
      · rw [show b = w.heap.size from List.mem_singleton.1 hb]; exact Nat.le_refl _
      · rw [show b = w.heap.size from List.mem_singleton.1 hb]; simp
end Go.Own
namespace Go.Proofs.YtibabfedpdoofaaGreatDoor
open Go.RowKit Go.Own Go.Maps Go.Shelf

theorem pstC_one (l : List Pst) : ∀ u ∈ (l.map pstC).flatten, u.oneCell' = true := by
  intro u hu
  obtain ⟨x, hx, hu⟩ := List.mem_flatten.1 hu
  obtain ⟨p, _, rfl⟩ := List.mem_map.1 hx
  simp only [pstC, List.mem_cons, List.not_mem_nil, or_false] at hu
  rcases hu with rfl | rfl | rfl | rfl | rfl <;> rfl

set_option maxHeartbeats 8000000 in
set_option maxRecDepth 100000 in
theorem sClone_any {W : World} {v : Value} {l : List Pst} (h : IsL W 5 v (l.map pstC)) (hnil : ∀ n c, v = .slice none n c → n = 0) (hlen : l.length ≤ 100000) : Calls Tryz.prog 138 #[v] W fun e w' => ∃ v', e = .returned v' ∧ Own W w' [row 187 5 v' (l.map pstC)] := by
  have HO := Own.start W
  have HH := Lib.hid (fun (w' : World) (L : List Ent) (hO : Own W w' L) => h.below hO.grown h.lt)
  have HL := Lib.hid (pstC_len l)
  have H1 := Lib.hid (pstC_one l)
  have hlen1 : ([] : List (List Value)).length + (l.map pstC).length ≤ 1000000 := by rw [List.length_map]; simp; omega
  obtain ⟨sp, sc, rfl, -⟩ := h.slice
  rw [List.length_map] at HH hnil ⊢
  clear h
  cases sp with
  | none =>
    have h0 : l.length = 0 := hnil _ _ rfl
    obtain rfl : l = [] := List.length_eq_zero_iff.1 h0
    replace HO := HO.nil 187 5
    have hq := fun w => Lib.run_eql_slice_nil (P := Tryz.prog) w _ _ (none : Option Addr) 0 sc 0 0 Tryz.underlying104
    clear h0 hnil
    go_enter Tryz.func138, Tryz.ntmps138
    go_wp2_with fail
    go_ret
    exact ⟨_, rfl, HO⟩
  | some a =>
    have hq := fun w => Lib.run_eql_slice_nil (P := Tryz.prog) w _ _ (some a) l.length sc 0 0 Tryz.underlying104
    clear hnil
    go_enter Tryz.func138, Tryz.ntmps138
    go_wp2_with (first | ((with_reducible apply wpList_lit0 (k := 5) HO); exact rfl; infer_instance; infer_instance; exact rfl; clear HO; intro bl w HO; (simp only [Act.put, zA, zB, zC])) | ((with_reducible apply wpList_appendAll HO); exact rfl; infer_instance; infer_instance; ((simp [Act.eval]; rfl)); exact rfl; exact (HH.out _ _ HO); exact HL.out; exact H1.out; intro _; (repeat (with_reducible (exact At.head _))); (omega); decide; exact rfl; clear HO; intro v2 w HO hv2; (simp only [Act.put, zA, zB, zC])))
    go_ret
    exact ⟨_, rfl, by simpa using HO⟩

def cloneI_ren : Go.Shelf.Ren := ⟨fun | 5 => 139 | 7 => 165 | n => n, fun | 4 => 4 | 20 => 20 | 23 => 190 | 25 => 9 | 3 => 187 | n => n, fun | n => n⟩
theorem cloneI : Go.Proofs.SlLaysW.n5 Tryz.prog cloneI_ren := {
  mixed := by kernel_rfl
  f5 := ⟨Tryz.f139.name, by kernel_rfl, Tryz.func139.trans (congrArg some (by kernel_rfl))⟩
  f7 := Tryz.func165.trans (congrArg some (by kernel_rfl))
  t4 := Tryz.underlying4
  a4 := Tryz.isAgg4
  z4 := Tryz.sizeOf4
  v4 := Tryz.zeroValue4
  t20 := Tryz.underlying20
  a20 := Tryz.isAgg20
  z20 := Tryz.sizeOf20
  v20 := Tryz.zeroValue20
  t23 := Tryz.underlying190
  a23 := Tryz.isAgg190
  z23 := Tryz.sizeOf190
  v23 := Tryz.zeroValue190 }
def cloneB_ren : Go.Shelf.Ren := ⟨fun | 5 => 140 | 7 => 165 | n => n, fun | 4 => 4 | 20 => 20 | 23 => 191 | 25 => 195 | 3 => 2 | n => n, fun | n => n⟩
theorem cloneB : Go.Proofs.SlLaysW.n5 Tryz.prog cloneB_ren := {
  mixed := by kernel_rfl
  f5 := ⟨Tryz.f140.name, by kernel_rfl, Tryz.func140.trans (congrArg some (by kernel_rfl))⟩
  f7 := Tryz.func165.trans (congrArg some (by kernel_rfl))
  t4 := Tryz.underlying4
  a4 := Tryz.isAgg4
  z4 := Tryz.sizeOf4
  v4 := Tryz.zeroValue4
  t20 := Tryz.underlying20
  a20 := Tryz.isAgg20
  z20 := Tryz.sizeOf20
  v20 := Tryz.zeroValue20
  t23 := Tryz.underlying191
  a23 := Tryz.isAgg191
  z23 := Tryz.sizeOf191
  v23 := Tryz.zeroValue191 }
theorem cloneI_any {w : World} {b : Nat} {l : List Pst} (h : (idE b l).F w) : Calls Tryz.prog 139 #[.map (some b)] w fun e w' => ∃ b', e = .returned (.map (some b')) ∧ Own w w' [idE b' l] := by
  obtain ⟨n, f, ⟨D, hD, hB⟩, hn, hf⟩ := h
  refine (AnyW.maps_Clone_owns cloneI _ _ b n D w hD).mono fun e w' ⟨he, h1, _, h3⟩ => ⟨_, he, (Own.start w).more h3 (idE_ok _ _) ⟨n, f, ⟨D, h1, hB⟩, hn, hf⟩ (fun b hb => ?_) (fun b hb => ?_)⟩
  · rw [show b = w.heap.size from List.mem_singleton.1 hb]; exact Nat.le_refl _
  · rw [show b = w.heap.size from List.mem_singleton.1 hb]; exact h1.lt
theorem cloneB_any {w : World} {b : Nat} {l : List Pst} (h : (balE b l).F w) : Calls Tryz.prog 140 #[.map (some b)] w fun e w' => ∃ b', e = .returned (.map (some b')) ∧ Own w w' [balE b' l] := by
  obtain ⟨n, f, ⟨D, hD, hB⟩, hn, hf⟩ := h
  refine (AnyW.maps_Clone_owns cloneB _ _ b n D w hD).mono fun e w' ⟨he, h1, _, h3⟩ => ⟨_, he, (Own.start w).more h3 (balE_ok _ _) ⟨n, f, ⟨D, h1, hB⟩, hn, hf⟩ (fun b hb => ?_) (fun b hb => ?_)⟩
  · rw [show b = w.heap.size from List.mem_singleton.1 hb]; exact Nat.le_refl _
  · rw [show b = w.heap.size from List.mem_singleton.1 hb]; exact h1.lt
theorem BkAt.isL {w : World} {b : Nat} {v : Value} {pm bm : Nat} {l : List Pst} (h : BkAt w b v pm bm l) : IsL w 5 v (l.map pstC) ∧ ∀ n c, v = .slice none n c → n = 0 := by
  refine ⟨isL_of_owns (pstC_len l) h.row, fun n c e => ?_⟩
  rcases h.row.2 with ⟨rfl, h0⟩ | ⟨g, cap, cur, rfl, _⟩
  · cases e; rfl
  · cases e

set_option maxHeartbeats 8000000 in
set_option maxRecDepth 100000 in
theorem bkCopy_any {W : World} {b : Nat} {v : Value} {pm bm : Nat} {l : List Pst} (h : BkAt W b v pm bm l) (hlen : l.length ≤ 100000) : Calls Tryz.prog 97 #[.pointer (some ⟨b, 0, none⟩)] W fun e w' => ∃ b' v' pm' bm', e = .returned (.pointer (some ⟨b', 0, none⟩)) ∧ Own W w' [bkE b' v' pm' bm' l] := by
  have HO := Own.start W
  have N := bkNone_any h.box
  have HC := fun w (hb : Below W.heap.size W w) => sClone_any ((h.below hb).isL.1) h.isL.2 hlen
  have HI := fun w (hb : Below W.heap.size W w) => cloneI_any (h.below hb).ids
  have HB := fun w (hb : Below W.heap.size W w) => cloneB_any (h.below hb).bals
  have hv : v.oneCell' = true := by
    rcases h.row.2 with ⟨rfl, h0⟩ | ⟨g, cap, cur, rfl, _⟩ <;> rfl
  have hlt := old_lt h.box
  have HK := Lib.hid (fun (w' : World) (hb : Below W.heap.size W w') (i : Nat) (u : Value) (hu : [v, .map (some pm), .map (some bm)][i]? = some u) => show w'.cell? ⟨b, i, none⟩ = some u by
    rw [hb.cell (p := ⟨b, i, none⟩) hlt]; exact old_cell h.box i hu)
  clear h
  go_enter Tryz.func97, Tryz.ntmps97
  go_upto_region 3 with ((go_at_call 112; go_must ((with_reducible refine (N).mono ?_); rintro e w ⟨rfl, hb⟩; replace HO := HO.call hb; clear hb)))
  refine region_treeO [] [(0, true), (1, true), (2, true), (3, true), (5, true), (6, true), (7, true), (8, true), (10, true), (11, true), (12, true), (13, true), (4, false), (9, false), (14, false), (15, true), (16, false), (17, true)] (.fin [(0, true), (1, true), (2, true), (3, true), (5, true), (6, true), (7, true), (8, true), (10, true), (11, true), (12, true), (13, true), (4, false), (9, false), (14, false), (15, true), (16, false), (17, true)]) HO (by with_reducible (repeat (exact List.nil_sublist _))) (by kernel_rfl) (by kernel_rfl) ?_
  clear HO
  intro w HO
  refine wpS_fin ?_
  iterate 12 (first | ((with_reducible apply wpSched_loadAt1); exact rfl; exact rfl; exact rfl; exact (fun w' hw => HK.out w' (hw _ List.mem_cons_self) _ _ rfl); infer_instance; exact rfl; (simp only [Act.put, zA, zB, zC])) | ((with_reducible apply wpSched_pure); exact rfl; exact rfl; (intro w'; go_simp; try with_reducible rfl); (simp only [Act.put, zA, zB, zC])))
  ((with_reducible apply wpSched_loud); exact rfl; go_wp2_with ((go_at_call 138; go_must ((with_reducible refine (HC _ HO.grown).mono ?_); rintro e w ⟨v2, rfl, HO1⟩; replace HO := HO.lift HO1; clear HO1; simp only [List.cons_append, List.nil_append] at HO))))
  obtain ⟨⟨p9, c9, rfl⟩, -⟩ := HO.rowForm (v := v2) (.head _)
  rw [List.length_map] at HO ⊢
  refine thenQ_keep (HO.heldO (by with_reducible (repeat (exact List.nil_sublist _)))) ?_
  ((with_reducible apply wpSched_loud); exact rfl; go_wp2_with ((go_at_call 139; go_must ((with_reducible refine (HI _ HO.grown).mono ?_); rintro e w ⟨b2, rfl, HO1⟩; replace HO := HO.lift HO1; clear HO1; simp only [List.cons_append, List.nil_append] at HO))))
  refine thenQ_keep (HO.heldO (by with_reducible (repeat (exact List.nil_sublist _)))) ?_
  ((with_reducible apply wpSched_loud); exact rfl; go_wp2_with ((go_at_call 140; go_must ((with_reducible refine (HB _ HO.grown).mono ?_); rintro e w ⟨b3, rfl, HO1⟩; replace HO := HO.lift HO1; clear HO1; simp only [List.cons_append, List.nil_append] at HO))))
  refine thenQ_keep (HO.heldO (by with_reducible (repeat (exact List.nil_sublist _)))) ?_
  ((with_reducible apply wpSched_pure); exact rfl; exact rfl; (intro w'; go_simp; try with_reducible rfl); (simp only [Act.put, zA, zB, zC]))
  ((with_reducible apply wpSched_loud); exact rfl; (((with_reducible apply wpList_boxAgg _ HO rfl); exact rfl; exact rfl; exact rfl; clear HO; intro b4 w HO; (simp only [Act.put, zA, zB, zC]))))
  refine wpList_nil (thenQ_keep (HO.heldO (by with_reducible (repeat (exact List.nil_sublist _)))) ?_)
  ((with_reducible apply wpSched_pure); exact rfl; exact rfl; (intro w'; go_simp; try with_reducible rfl); (simp only [Act.put, zA, zB, zC]))
  refine wpSched_end ?_
  go_wp2_with fail
  go_ret
  exact ⟨b4, .slice p9 l.length c9, b2, b3, rfl, Own.join (es := bkPs b4 (.slice p9 l.length c9) b2 b3 l) (HO.perm ((List.reverse_perm [_, _, _]).symm.cons _))⟩
end Go.Proofs.YtibabfedpdoofaaGreatDoor
namespace Go.Proofs.YtibabfedpdoofaaGreatDoor
open Go.RowKit Go.Own Go.Maps

/-- Where the document's core lies: its block, its slices. -/
structure RcA where
  r : Nat
  v : Value
  u : Value
  v0 : Value
  v1 : Value
  v2 : Value
def rcC (x : RcA) (A : InS) : List Value := [x.v, x.u, .int .i64 A.p0, .int .i64 A.q0, x.v0, .int .i64 A.p1, .int .i64 A.q1, x.v1, .int .i64 A.p2, .int .i64 A.q2, x.v2]
def rcB (x : RcA) (A : InS) : Ent := box x.r (.cells (rcC x A).toArray 152)
/-- What its slices are. -/
structure RcS (w : World) (x : RcA) (S : CoS) (A : InS) : Prop where
  l : IsL w 12 x.v (S.L.map sagaL)
  b : IsL w 5 x.u (S.P.map pstC)
  i0 : IsRows w x.v0 A.r0
  i1 : IsRows w x.v1 A.r1
  i2 : IsRows w x.v2 A.r2
/-- The same in any world where the pieces G stand. -/
def RcIn (W : World) (G : List Ent) (x : RcA) (S : CoS) (A : InS) : Prop := ∀ w' : World, Below W.heap.size W w' → (∀ e ∈ G, e.F w') → RcS w' x S A
def RowsF (W : World) (G : List Ent) (v : Value) (rs : List RowS) : Prop := ∀ w' : World, Below W.heap.size W w' → (∀ e ∈ G, e.F w') → IsRows w' v rs
theorem RowsF.old {W : World} {v : Value} {rs : List RowS} (h : IsRows W v rs) (G : List Ent) : RowsF W G v rs := fun _ hb _ => h.below hb h.lt
theorem RcIn.at {W w : World} {G L : List Ent} {x : RcA} {S : CoS} {A : InS} (h : RcIn W G x S A) (hO : Own W w L) (hm : ∀ e ∈ G, e ∈ L) : RcS w x S A := h w hO.grown (fun e he => hO.has _ (hm e he))
theorem RcIn.setL {W : World} {G : List Ent} {x : RcA} {S : CoS} {A : InS} (h : RcIn W G x S A) (v' : Value) (L' : List (OrdS × D6)) (t : TypeId) : RcIn W (row t 12 v' (L'.map sagaL) :: G) { x with v := v' } { S with L := L' } A := fun w' hb hF =>
  have h1 := h w' hb (fun e he => hF e (List.mem_cons_of_mem _ he))
  ⟨isL_of_owns (sagaL_len _) (hF _ List.mem_cons_self), h1.b, h1.i0, h1.i1, h1.i2⟩
theorem RcIn.setP {W : World} {G : List Ent} {x : RcA} {S : CoS} {A : InS} (h : RcIn W G x S A) (u' : Value) (P' : List Pst) (t : TypeId) : RcIn W (row t 5 u' (P'.map pstC) :: G) { x with u := u' } { S with P := P' } A := fun w' hb hF =>
  have h1 := h w' hb (fun e he => hF e (List.mem_cons_of_mem _ he))
  ⟨h1.l, isL_of_owns (pstC_len _) (hF _ List.mem_cons_self), h1.i0, h1.i1, h1.i2⟩
theorem RcIn.mono {W : World} {G H : List Ent} {x : RcA} {S : CoS} {A : InS} (h : RcIn W G x S A) (hs : ∀ e ∈ G, e ∈ H) : RcIn W H x S A := fun w' hb hF => h w' hb (fun e he => hF e (hs e he))
def rcNil (r : Nat) : RcA := ⟨r, .slice none 0 0, .slice none 0 0, .slice none 0 0, .slice none 0 0, .slice none 0 0⟩
theorem rcNil_in (W : World) (r : Nat) : RcIn W [] (rcNil r) ⟨[], []⟩ zeroI := fun _ _ _ => ⟨.none _ _ (fun _ => rfl), .none _ _ (fun _ => rfl), .none _ _ (fun _ => rfl), .none _ _ (fun _ => rfl), .none _ _ (fun _ => rfl)⟩

set_option maxHeartbeats 4000000 in
theorem rcNew_any (W : World) : Calls Tryz.prog 26 #[] W fun e w' => ∃ r, e = .returned (.pointer (some ⟨r, 0, none⟩)) ∧ Own W w' [rcB (rcNil r) zeroI] := by
  have HO := Own.start W
  go_enter Tryz.func26, Tryz.ntmps26
  go_wp2_with ((((with_reducible apply wpList_boxAgg _ HO rfl); exact rfl; exact rfl; exact rfl; clear HO; intro b1 w HO; (simp only [Act.put, zA, zB, zC]))))
  go_ret
  exact ⟨b1, rfl, HO⟩

set_option maxHeartbeats 8000000 in
set_option maxRecDepth 100000 in
theorem rcHas_any {w : World} {x : RcA} {S : CoS} {A : InS} (hb : w.heap[x.r]? = some (.cells (rcC x A).toArray 152)) (h : RcS w x S A) (ref : List UInt8) : Calls Tryz.prog 84 #[.pointer (some ⟨x.r, 0, none⟩), .string ⟨ref.toArray⟩] w fun e w' => e = .returned (.bool (hasL S.L ref)) ∧ Below w.heap.size w w' := by
  have HO := Own.start w
  obtain ⟨p, c, hv, hmx⟩ := h.l.slice
  rw [List.length_map] at hv hmx
  have HR := Lib.hid h.l
  have h0 := old_cell hb 0 rfl
  have hlt := old_lt hb
  have hmx' : (S.L.length : Int) ≤ 9223372036854775807 := by unfold maxLen at hmx; omega
  rw [hv] at h0
  generalize ha : x.v = av at *
  subst hv
  clear h ha hb
  generalize hg : hasL S.L ref = g0
  replace hg := Lib.hid hg
  go_enter Tryz.func84, Tryz.ntmps84
  go_wp2_with (fail)
  go_loopw [5] (fun i wr => ∃ j : Nat, j ≤ S.L.length ∧ i = .int .i64 (j : Int) ∧ hasL (S.L.take j) ref = false ∧ Own w wr []) (fun i _ => S.L.length - (intOf i).toNat)
  case atStart => exact ⟨0, by omega, rfl, rfl, HO⟩
  case round =>
    clear HO
    obtain ⟨j, hj, rfl, hnf, HO⟩ := hrel
    by_cases hjl : j < S.L.length
    · have hjI : (j : Int) < (S.L.length : Int) := by omega
      obtain ⟨b, rfl, hst⟩ := oldAt HR.out rfl hjl
      have HX := Lib.hid (show S.L[j].1.ref ≠ ref → hasL (S.L.take (j + 1)) ref = false from fun hx => by
        unfold hasL at hnf ⊢
        rw [List.take_succ_eq_append_getElem hjl, List.any_append, hnf]
        simpa using hx)
      have HY := Lib.hid (show S.L[j].1.ref = ref → hasL S.L ref = true from fun hx => by
        unfold hasL
        rw [List.any_eq_true]
        exact ⟨S.L[j], List.getElem_mem hjl, by simpa using hx⟩)
      clear hnf
      generalize S.L[j] = y at *
      obtain ⟨o, s⟩ := y
      unfold sagaL at hst
      have hs1 := fun w' (h1 : Own w w' []) => hst w' h1.grown 1 _ rfl
      clear hst
      by_cases hz : o.ref = ref
      · obtain rfl : g0 = true := hg.out.symm.trans (HY.out hz)
        have hD : (o.ref == ref) = true := by simpa using hz
        clear HX HY hz
        go_wp2_with (first | ((with_reducible apply wpList_loadOld1 HO); exact rfl; exact rfl; exact hlt; exact h0; infer_instance; exact rfl; (simp only [Act.put, zA, zB, zC])) | ((with_reducible apply wpList_loadAt1 HO); exact rfl; exact rfl; exact (hs1); infer_instance; exact rfl; (simp only [Act.put, zA, zB, zC])))
        go_ret
        exact ⟨rfl, HO.grown⟩
      · have HZ := Lib.hid (HX.out hz)
        have hD : (o.ref == ref) = false := by simpa using hz
        clear HX HY hz
        go_wp2_with (first | ((with_reducible apply wpList_loadOld1 HO); exact rfl; exact rfl; exact hlt; exact h0; infer_instance; exact rfl; (simp only [Act.put, zA, zB, zC])) | ((with_reducible apply wpList_loadAt1 HO); exact rfl; exact rfl; exact (hs1); infer_instance; exact rfl; (simp only [Act.put, zA, zB, zC])))
        go_roundw
        case rel => exact ⟨j + 1, by omega, by go_num, HZ.out, HO⟩
        case measure => simp [intOf] <;> omega
    · obtain rfl : j = S.L.length := by omega
      rw [List.take_length] at hnf
      obtain rfl : g0 = false := hg.out.symm.trans hnf
      clear hnf
      go_wp2_with (((with_reducible apply wpList_loadOld1 HO); exact rfl; exact rfl; exact hlt; exact h0; infer_instance; exact rfl; (simp only [Act.put, zA, zB, zC])))
      go_ret
      exact ⟨rfl, HO.grown⟩

theorem sagaL_one (l : List (OrdS × D6)) : ∀ u ∈ (l.map sagaL).flatten, u.oneCell' = true := by
  intro u hu
  obtain ⟨x, hx, hu⟩ := List.mem_flatten.1 hu
  obtain ⟨p, _, rfl⟩ := List.mem_map.1 hx
  simp only [sagaL, List.mem_cons, List.not_mem_nil, or_false] at hu
  rcases hu with rfl | rfl | rfl | rfl | rfl | rfl | rfl | rfl | rfl | rfl | rfl | rfl <;> rfl

set_option maxHeartbeats 8000000 in
set_option maxRecDepth 100000 in
theorem rcSet_any {W w : World} {M : List Ent} {x : RcA} {A : InS} {L : List (OrdS × D6)} (o : OrdS) (d : D6) {j : Nat} (HO : Own W w (rcB x A :: M)) (hl : ∀ (w' : World) (L' : List Ent), Own W w' L' → (∀ e ∈ M, e ∈ L') → IsL w' 12 x.v (L.map sagaL)) (hid : o.id = (j : Int) + 1) (hj : j < L.length) (hlen : L.length ≤ 1000) :
    Calls Tryz.prog 87 #[.pointer (some ⟨x.r, 0, none⟩), sagaV o d] w fun e w' => e = .returned (.tuple #[]) ∧ ∃ v', Own W w' (rcB { x with v := v' } A :: row 124 12 v' ((L.set j (o, d)).map sagaL) :: M) := by
  obtain ⟨r, v, u, v0, v1, v2⟩ := x
  have HL := Lib.hid (sagaL_len L)
  have H1 := Lib.hid (sagaL_one L)
  have HU := Lib.hid hl
  obtain ⟨p, c, hv, -⟩ := (hl _ _ HO (fun e he => List.mem_cons_of_mem _ he)).slice
  simp only at hv
  subst hv
  rw [List.length_map] at HO
  rw [List.length_map] at HU
  have hset := Lib.hid (show (L.set j (o, d)).map sagaL = (L.map sagaL).set j (sagaL (o, d)) from List.map_set ..)
  have hjm : j < (L.map sagaL).length := by simpa using hj
  have hjI : (j : Int) < (L.length : Int) := by omega
  have e1 : IntKind.i64.wrap ((j : Int) + 1 - 1) = (j : Int) := by rw [show (j : Int) + 1 - 1 = (j : Int) by omega, wrap_in (inI_iff.2 (by omega))]
  have hlm : ([] : List (List Value)).length + (L.map sagaL).length ≤ 1000000 := by rw [List.length_map]; simp; omega
  clear hl
  unfold rcB rcC at HO
  obtain ⟨oid, oref, osku, oq, oa⟩ := o
  simp only at hid HO
  replace HO := HO.nil 124 12
  replace HO := HO.swap
  unfold rcB rcC
  simp only [sagaV]
  have e2 : IntKind.i64.wrap (oid - 1) = (j : Int) := by rw [hid]; exact e1
  clear e1 hid
  go_enter Tryz.func87, Tryz.ntmps87
  go_wp2_with (first | (((with_reducible apply wpList_loadOne HO); exact rfl; exact rfl; (repeat (with_reducible (first | exact At.head _ | apply At.tail))); exact rfl; infer_instance; exact rfl; (simp only [Act.put, zA, zB, zC]))) | (((with_reducible apply wpList_boxAgg _ HO rfl); exact rfl; exact rfl; exact rfl; clear HO; intro b3 w HO; (simp only [Act.put, zA, zB, zC]))) | ((with_reducible apply wpList_storeOne HO); exact rfl; exact rfl; ((simp [Act.eval]; rfl)); exact rfl; (repeat (with_reducible (first | exact At.head _ | apply At.tail))); infer_instance; exact (by simp); (simp only [List.set_cons_zero]; rfl); exact rfl; clear HO; intro w HO; (simp only [Act.put])) | (((with_reducible apply wpList_appendAll HO); exact rfl; infer_instance; infer_instance; ((simp [Act.eval]; rfl)); exact rfl; exact (HU.out _ _ HO (by intro e he; repeat (first | exact he | apply List.mem_cons_of_mem))); exact HL.out; exact H1.out; intro _; (repeat (with_reducible (first | exact At.head _ | apply At.tail))); (omega); decide; exact rfl; clear HO; intro v2 w HO hv2; (simp only [Act.put, zA, zB, zC])); (obtain ⟨p2, n2, c2, rfl⟩ := hv2)))
  obtain ⟨⟨p3, c3, hv3⟩, hv4⟩ := HO.rowForm (t := 124) (k := 12) (v := .slice p2 n2 c2) (by (repeat (with_reducible (first | exact At.head _ | apply At.tail))))
  obtain ⟨q2, c4, hv5⟩ := hv4 (by simp; omega)
  cases hv5
  clear hv3
  simp only [List.nil_append, List.length_map] at HO ⊢
  go_upto_region 2 with (fail)
  refine region_sched2 ([box b3 (.cells #[.int .i64 oid, .string ⟨oref.toArray⟩, .string ⟨osku.toArray⟩, .int .i64 oq, .int .i64 oa, .int .i64 d.a, .int .i64 d.b, .int .i64 d.c, .int .i64 d.d, .int .i64 d.e, .int .i64 d.f, .bool d.x] 124), box r (.cells #[.slice (some q2) L.length c2, u, .int .i64 A.p0, .int .i64 A.q0, v0, .int .i64 A.p1, .int .i64 A.q1, v1, .int .i64 A.p2, .int .i64 A.q2, v2] 152)]) [(0, true), (1, true), (2, true), (3, true), (4, true), (5, true), (6, true), (7, true), (8, true), (9, true), (10, false)] HO (by with_reducible (repeat (first | exact List.nil_sublist _ | apply List.Sublist.cons_cons))) (by kernel_rfl) (by kernel_rfl) ?_
  clear HO
  intro w HO
  repeat (first | ((with_reducible apply wpSched_loadOne); exact rfl; exact rfl; exact rfl; (repeat (with_reducible (first | exact At.head _ | apply At.tail))); exact rfl; infer_instance; exact rfl; (simp only [Act.put, zA, zB, zC])) | ((with_reducible apply wpSched_loadAll); exact rfl; exact rfl; exact rfl; (repeat (with_reducible (exact At.head _))); infer_instance; exact rfl; exact rfl; (simp only [Act.put, zA, zB, zC])) | ((with_reducible apply wpSched_pure); exact rfl; exact rfl; (intro w'; go_simp; try with_reducible rfl); (simp only [Act.put, zA, zB, zC])))
  ((with_reducible apply wpSched_loud); exact rfl; ((with_reducible apply wpList_storeRow HO); exact rfl; exact rfl; ((simp [Act.eval]; rfl)); exact rfl; (repeat (with_reducible (first | exact At.head _ | apply At.tail))); exact (HL.out); (simp; omega); exact rfl; infer_instance; exact rfl; exact rfl; clear HO; intro w HO; (simp only [Act.put])))
  refine wpList_nil (thenQ_free (by kernel_rfl) ?_)
  refine wpSched_end ?_
  go_end0
  refine ⟨rfl, .slice (some q2) L.length c2, ?_⟩
  rw [hset.out]
  exact HO.tail

set_option maxHeartbeats 8000000 in
set_option maxRecDepth 100000 in
theorem rcPost_any {W w : World} {M : List Ent} {x : RcA} {A : InS} {P : List Pst} (id : ByteArray) (o d c a : Int) (HO : Own W w (rcB x A :: M)) (hl : ∀ (w' : World) (L' : List Ent), Own W w' L' → (∀ e ∈ M, e ∈ L') → IsL w' 5 x.u (P.map pstC)) (hlen : P.length ≤ 100000) :
    Calls Tryz.prog 92 #[.pointer (some ⟨x.r, 0, none⟩), .string id, .int .i64 o, .int .i64 d, .int .i64 c, .int .i64 a] w fun e w' => e = .returned (.tuple #[]) ∧ ∃ u', Own W w' (rcB { x with u := u' } A :: row 187 5 u' ((P ++ [(⟨id, o, d, c, a⟩ : Pst)]).map pstC) :: M) := by
  obtain ⟨r, v, u, v0, v1, v2⟩ := x
  have HL := Lib.hid (pstC_len P)
  have H1 := Lib.hid (pstC_one P)
  have HU := Lib.hid hl
  obtain ⟨p, cc, hv, -⟩ := (hl _ _ HO (fun e he => List.mem_cons_of_mem _ he)).slice
  simp only at hv
  subst hv
  rw [List.length_map] at HO
  rw [List.length_map] at HU
  have hpc := Lib.hid (show (P ++ [(⟨id, o, d, c, a⟩ : Pst)]).map pstC = P.map pstC ++ [[.string id, .int .i64 o, .int .i64 d, .int .i64 c, .int .i64 a]] by simp [pstC])
  have hlm : ([] : List (List Value)).length + (P.map pstC).length ≤ 1000000 := by rw [List.length_map]; simp; omega
  have hlm2 : ([] ++ P.map pstC).length + 1 ≤ 1000000 := by rw [List.nil_append, List.length_map]; omega
  clear hl
  unfold rcB rcC at HO
  simp only at HO
  replace HO := HO.nil 187 5
  replace HO := HO.swap
  unfold rcB rcC
  go_enter Tryz.func92, Tryz.ntmps92
  go_wp2_with (first | (((with_reducible apply wpList_loadOne HO); exact rfl; exact rfl; (repeat (with_reducible (exact At.head _))); exact rfl; infer_instance; exact rfl; (simp only [Act.put, zA, zB, zC]))) | (((with_reducible apply wpList_lit1 HO); exact rfl; infer_instance; infer_instance; exact rfl; exact rfl; exact (by decide); exact rfl; clear HO; intro bl w HO; (simp only [Act.put, zA, zB, zC]))) | (((with_reducible apply wpList_push1 HO); exact rfl; infer_instance; infer_instance; ((simp [Act.eval]; rfl)); exact rfl; intro _; (repeat (with_reducible (first | exact At.head _ | apply At.tail))); exact rfl; exact rfl; (omega); decide; exact rfl; clear HO; intro v2 w HO hv2; (simp only [Act.put, zA, zB, zC])); (obtain ⟨p2, n2, c2, rfl⟩ := hv2)) | ((with_reducible apply wpList_storeOne HO); exact rfl; exact rfl; ((simp [Act.eval]; rfl)); exact rfl; (repeat (with_reducible (exact At.head _))); infer_instance; exact (by simp); (simp only [List.set_cons_succ, List.set_cons_zero]; rfl); exact rfl; clear HO; intro w HO; (simp only [Act.put])) | ((with_reducible apply wpList_appendAll HO); exact rfl; infer_instance; infer_instance; ((simp [Act.eval]; rfl)); exact rfl; exact (HU.out _ _ HO (by intro e he; repeat (first | exact he | apply List.mem_cons_of_mem))); exact HL.out; exact H1.out; intro _; (repeat (with_reducible (first | exact At.head _ | apply At.tail))); (omega); decide; exact rfl; clear HO; intro v2 w HO hv2; (simp only [Act.put, zA, zB, zC])))
  go_end0
  refine ⟨rfl, .slice p2 n2 c2, ?_⟩
  simpa [pstC] using HO
end Go.Proofs.YtibabfedpdoofaaGreatDoor
namespace Go.Proofs.YtibabfedpdoofaaGreatDoor
open Go.RowKit Go.Own

set_option maxHeartbeats 8000000 in
set_option maxRecDepth 100000 in
theorem refOn_any (o : OrdS) (s : D6) (w : World) : Calls Tryz.prog 133 #[sagaV o s] w fun e w' => e = .returned (sagaV o (onOf s)) ∧ Below w.heap.size w w' := by
  have B := fun w => refBack_any o s w
  obtain ⟨a, b, c, d, e, f, x⟩ := s
  cases hk : backOf ⟨a, b, c, d, e, f, x⟩
  · rw [(show sagaV o ⟨a, b, c, d, e, f, x⟩ = .agg #[.int .i64 o.id, .string ⟨o.ref.toArray⟩, .string ⟨o.sku.toArray⟩, .int .i64 o.qty, .int .i64 o.amt, .int .i64 a, .int .i64 b, .int .i64 c, .int .i64 d, .int .i64 e, .int .i64 f, .bool x] from rfl), hk] at B
    rw [(show sagaV o ⟨a, b, c, d, e, f, x⟩ = .agg #[.int .i64 o.id, .string ⟨o.ref.toArray⟩, .string ⟨o.sku.toArray⟩, .int .i64 o.qty, .int .i64 o.amt, .int .i64 a, .int .i64 b, .int .i64 c, .int .i64 d, .int .i64 e, .int .i64 f, .bool x] from rfl)]
    by_cases ha : a = 0
    · have HQ := Lib.hid (show onOf ⟨a, b, c, d, e, f, x⟩ = ⟨1, b, c, d, e, f, x⟩ from (onOf_fwd hk).trans (by simp [ha]))
      have hab : (a == 0) = true := by simpa using ha
      clear hk ha
      go_enter Tryz.func133, Tryz.ntmps133
      go_wp2_with (go_at_call 124; go_must ((with_reducible refine (B _).mono ?_); rintro e w1 ⟨rfl, hb⟩; obtain ⟨hc, hf⟩ := bcell hb; have hz := hb.size; (try simp at hz); (try have hzT := Nat.lt_of_succ_le hz); have hzA : w.heap.size < w1.heap.size := (by omega); have hzB : w.heap.size + 1 < w1.heap.size := (by omega); have hzA2 := Nat.le_of_lt hzA; have hzB2 := Nat.le_of_lt hzB))
      obtain ⟨L1, L2, f1, f2⟩ := after2 hb; have k0 := L1 0 _ rfl; have k1 := L1 1 _ rfl; have k2 := L1 2 _ rfl; have k3 := L1 3 _ rfl; have k4 := L1 4 _ rfl; have k5 := L1 5 _ rfl; have k6 := L1 6 _ rfl; have k7 := L1 7 _ rfl; have k8 := L1 8 _ rfl; have k9 := L1 9 _ rfl; have k10 := L1 10 _ rfl; have k11 := L1 11 _ rfl; have m0 := L2 0 _ rfl; have m1 := L2 1 _ rfl; have m2 := L2 2 _ rfl; have m3 := L2 3 _ rfl; have m4 := L2 4 _ rfl; have m5 := L2 5 _ rfl; have m6 := L2 6 _ rfl; have m7 := L2 7 _ rfl; have m8 := L2 8 _ rfl; have m9 := L2 9 _ rfl; have m10 := L2 10 _ rfl; have m11 := L2 11 _ rfl; clear L1 L2 hc hf
      refine wp_loop_rounds 4 ?_
      rw [rounds_succ]
      go_wp2_with fail
      all_goals (try (rw [rounds_succ]; go_wp2_with fail))
      all_goals (try (rw [rounds_succ]; go_wp2_with fail))
      all_goals (try (rw [rounds_succ]; go_wp2_with fail))
      refine bodyPost_ret (v := sagaV o ⟨1, b, c, d, e, f, x⟩) (by unfold sagaV; simp [results, Tryz.results133, go_sem, *]) rfl ⟨by rw [HQ.out], (by with_reducible (repeat (first | exact Below.refl _ _ | refine Below.alloc ?_ (by first | (simp; done) | omega | (simp; omega)) _ | refine Below.setCell ?_ (by first | (simp; done) | omega | (simp; omega)) _ | refine Below.trans ?_ (Below.mono (by assumption) (by first | (simp; done) | omega | (simp; omega))))))⟩
    · have hab : (a == 0) = false := by simpa using ha
      by_cases hb : b = 0
      · have HQ := Lib.hid (show onOf ⟨a, b, c, d, e, f, x⟩ = ⟨a, 1, c, d, e, f, x⟩ from (onOf_fwd hk).trans (by simp [ha, hb]))
        have hbb : (b == 0) = true := by simpa using hb
        clear hk hb ha
        go_enter Tryz.func133, Tryz.ntmps133
        go_wp2_with (go_at_call 124; go_must ((with_reducible refine (B _).mono ?_); rintro e w1 ⟨rfl, hb⟩; obtain ⟨hc, hf⟩ := bcell hb; have hz := hb.size; (try simp at hz); (try have hzT := Nat.lt_of_succ_le hz); have hzA : w.heap.size < w1.heap.size := (by omega); have hzB : w.heap.size + 1 < w1.heap.size := (by omega); have hzA2 := Nat.le_of_lt hzA; have hzB2 := Nat.le_of_lt hzB))
        obtain ⟨L1, L2, f1, f2⟩ := after2 hb; have k0 := L1 0 _ rfl; have k1 := L1 1 _ rfl; have k2 := L1 2 _ rfl; have k3 := L1 3 _ rfl; have k4 := L1 4 _ rfl; have k5 := L1 5 _ rfl; have k6 := L1 6 _ rfl; have k7 := L1 7 _ rfl; have k8 := L1 8 _ rfl; have k9 := L1 9 _ rfl; have k10 := L1 10 _ rfl; have k11 := L1 11 _ rfl; have m0 := L2 0 _ rfl; have m1 := L2 1 _ rfl; have m2 := L2 2 _ rfl; have m3 := L2 3 _ rfl; have m4 := L2 4 _ rfl; have m5 := L2 5 _ rfl; have m6 := L2 6 _ rfl; have m7 := L2 7 _ rfl; have m8 := L2 8 _ rfl; have m9 := L2 9 _ rfl; have m10 := L2 10 _ rfl; have m11 := L2 11 _ rfl; clear L1 L2 hc hf
        refine wp_loop_rounds 4 ?_
        rw [rounds_succ]
        go_wp2_with fail
        all_goals (try (rw [rounds_succ]; go_wp2_with fail))
        all_goals (try (rw [rounds_succ]; go_wp2_with fail))
        all_goals (try (rw [rounds_succ]; go_wp2_with fail))
        refine bodyPost_ret (v := sagaV o ⟨a, 1, c, d, e, f, x⟩) (by unfold sagaV; simp [results, Tryz.results133, go_sem, *]) rfl ⟨by rw [HQ.out], (by with_reducible (repeat (first | exact Below.refl _ _ | refine Below.alloc ?_ (by first | (simp; done) | omega | (simp; omega)) _ | refine Below.setCell ?_ (by first | (simp; done) | omega | (simp; omega)) _ | refine Below.trans ?_ (Below.mono (by assumption) (by first | (simp; done) | omega | (simp; omega))))))⟩
      · have hbb : (b == 0) = false := by simpa using hb
        by_cases hc : c = 0
        · have HQ := Lib.hid (show onOf ⟨a, b, c, d, e, f, x⟩ = ⟨a, b, 1, d, e, f, x⟩ from (onOf_fwd hk).trans (by simp [ha, hb, hc]))
          have hcb : (c == 0) = true := by simpa using hc
          clear hk hc ha hb
          go_enter Tryz.func133, Tryz.ntmps133
          go_wp2_with (go_at_call 124; go_must ((with_reducible refine (B _).mono ?_); rintro e w1 ⟨rfl, hb⟩; obtain ⟨hc, hf⟩ := bcell hb; have hz := hb.size; (try simp at hz); (try have hzT := Nat.lt_of_succ_le hz); have hzA : w.heap.size < w1.heap.size := (by omega); have hzB : w.heap.size + 1 < w1.heap.size := (by omega); have hzA2 := Nat.le_of_lt hzA; have hzB2 := Nat.le_of_lt hzB))
          obtain ⟨L1, L2, f1, f2⟩ := after2 hb; have k0 := L1 0 _ rfl; have k1 := L1 1 _ rfl; have k2 := L1 2 _ rfl; have k3 := L1 3 _ rfl; have k4 := L1 4 _ rfl; have k5 := L1 5 _ rfl; have k6 := L1 6 _ rfl; have k7 := L1 7 _ rfl; have k8 := L1 8 _ rfl; have k9 := L1 9 _ rfl; have k10 := L1 10 _ rfl; have k11 := L1 11 _ rfl; have m0 := L2 0 _ rfl; have m1 := L2 1 _ rfl; have m2 := L2 2 _ rfl; have m3 := L2 3 _ rfl; have m4 := L2 4 _ rfl; have m5 := L2 5 _ rfl; have m6 := L2 6 _ rfl; have m7 := L2 7 _ rfl; have m8 := L2 8 _ rfl; have m9 := L2 9 _ rfl; have m10 := L2 10 _ rfl; have m11 := L2 11 _ rfl; clear L1 L2 hc hf
          refine wp_loop_rounds 4 ?_
          rw [rounds_succ]
          go_wp2_with fail
          all_goals (try (rw [rounds_succ]; go_wp2_with fail))
          all_goals (try (rw [rounds_succ]; go_wp2_with fail))
          all_goals (try (rw [rounds_succ]; go_wp2_with fail))
          refine bodyPost_ret (v := sagaV o ⟨a, b, 1, d, e, f, x⟩) (by unfold sagaV; simp [results, Tryz.results133, go_sem, *]) rfl ⟨by rw [HQ.out], (by with_reducible (repeat (first | exact Below.refl _ _ | refine Below.alloc ?_ (by first | (simp; done) | omega | (simp; omega)) _ | refine Below.setCell ?_ (by first | (simp; done) | omega | (simp; omega)) _ | refine Below.trans ?_ (Below.mono (by assumption) (by first | (simp; done) | omega | (simp; omega))))))⟩
        · have hcb : (c == 0) = false := by simpa using hc
          have HQ := Lib.hid (show onOf ⟨a, b, c, d, e, f, x⟩ = ⟨a, b, c, d, e, f, x⟩ from (onOf_fwd hk).trans (by simp [ha, hb, hc]))
          clear hk ha hb hc
          go_enter Tryz.func133, Tryz.ntmps133
          go_wp2_with (go_at_call 124; go_must ((with_reducible refine (B _).mono ?_); rintro e w1 ⟨rfl, hb⟩; obtain ⟨hc, hf⟩ := bcell hb; have hz := hb.size; (try simp at hz); (try have hzT := Nat.lt_of_succ_le hz); have hzA : w.heap.size < w1.heap.size := (by omega); have hzB : w.heap.size + 1 < w1.heap.size := (by omega); have hzA2 := Nat.le_of_lt hzA; have hzB2 := Nat.le_of_lt hzB))
          obtain ⟨L1, L2, f1, f2⟩ := after2 hb; have k0 := L1 0 _ rfl; have k1 := L1 1 _ rfl; have k2 := L1 2 _ rfl; have k3 := L1 3 _ rfl; have k4 := L1 4 _ rfl; have k5 := L1 5 _ rfl; have k6 := L1 6 _ rfl; have k7 := L1 7 _ rfl; have k8 := L1 8 _ rfl; have k9 := L1 9 _ rfl; have k10 := L1 10 _ rfl; have k11 := L1 11 _ rfl; have m0 := L2 0 _ rfl; have m1 := L2 1 _ rfl; have m2 := L2 2 _ rfl; have m3 := L2 3 _ rfl; have m4 := L2 4 _ rfl; have m5 := L2 5 _ rfl; have m6 := L2 6 _ rfl; have m7 := L2 7 _ rfl; have m8 := L2 8 _ rfl; have m9 := L2 9 _ rfl; have m10 := L2 10 _ rfl; have m11 := L2 11 _ rfl; clear L1 L2 hc hf
          refine wp_loop_rounds 4 ?_
          rw [rounds_succ]
          go_wp2_with fail
          all_goals (try (rw [rounds_succ]; go_wp2_with fail))
          all_goals (try (rw [rounds_succ]; go_wp2_with fail))
          all_goals (try (rw [rounds_succ]; go_wp2_with fail))
          refine bodyPost_ret (v := sagaV o ⟨a, b, c, d, e, f, x⟩) (by unfold sagaV; simp [results, Tryz.results133, go_sem, *]) rfl ⟨by rw [HQ.out], (by with_reducible (repeat (first | exact Below.refl _ _ | refine Below.alloc ?_ (by first | (simp; done) | omega | (simp; omega)) _ | refine Below.setCell ?_ (by first | (simp; done) | omega | (simp; omega)) _ | refine Below.trans ?_ (Below.mono (by assumption) (by first | (simp; done) | omega | (simp; omega))))))⟩
  · rw [(show sagaV o ⟨a, b, c, d, e, f, x⟩ = .agg #[.int .i64 o.id, .string ⟨o.ref.toArray⟩, .string ⟨o.sku.toArray⟩, .int .i64 o.qty, .int .i64 o.amt, .int .i64 a, .int .i64 b, .int .i64 c, .int .i64 d, .int .i64 e, .int .i64 f, .bool x] from rfl), hk] at B
    rw [(show sagaV o ⟨a, b, c, d, e, f, x⟩ = .agg #[.int .i64 o.id, .string ⟨o.ref.toArray⟩, .string ⟨o.sku.toArray⟩, .int .i64 o.qty, .int .i64 o.amt, .int .i64 a, .int .i64 b, .int .i64 c, .int .i64 d, .int .i64 e, .int .i64 f, .bool x] from rfl)]
    have HK := Lib.hid hk
    clear hk
    go_enter Tryz.func133, Tryz.ntmps133
    go_wp2_with (go_at_call 124; go_must ((with_reducible refine (B _).mono ?_); rintro e w1 ⟨rfl, hb⟩; obtain ⟨hc, hf⟩ := bcell hb; have hz := hb.size; (try simp at hz); (try have hzT := Nat.lt_of_succ_le hz); have hzA : w.heap.size < w1.heap.size := (by omega); have hzB : w.heap.size + 1 < w1.heap.size := (by omega); have hzA2 := Nat.le_of_lt hzA; have hzB2 := Nat.le_of_lt hzB))
    obtain ⟨L1, L2, f1, f2⟩ := after2 hb; have k0 := L1 0 _ rfl; have k1 := L1 1 _ rfl; have k2 := L1 2 _ rfl; have k3 := L1 3 _ rfl; have k4 := L1 4 _ rfl; have k5 := L1 5 _ rfl; have k6 := L1 6 _ rfl; have k7 := L1 7 _ rfl; have k8 := L1 8 _ rfl; have k9 := L1 9 _ rfl; have k10 := L1 10 _ rfl; have k11 := L1 11 _ rfl; have m0 := L2 0 _ rfl; have m1 := L2 1 _ rfl; have m2 := L2 2 _ rfl; have m3 := L2 3 _ rfl; have m4 := L2 4 _ rfl; have m5 := L2 5 _ rfl; have m6 := L2 6 _ rfl; have m7 := L2 7 _ rfl; have m8 := L2 8 _ rfl; have m9 := L2 9 _ rfl; have m10 := L2 10 _ rfl; have m11 := L2 11 _ rfl; clear L1 L2 hc hf
    go_loop [4] (fun k => k = .int .i64 2 ∨ (k = .int .i64 1 ∧ ¬ ((c = 2 ∨ c = 4) ∧ f = 0)) ∨ (k = .int .i64 0 ∧ ¬ ((c = 2 ∨ c = 4) ∧ f = 0) ∧ ¬ ((b = 2 ∨ b = 4) ∧ e = 0)) ∨ (k = .int .i64 (-1) ∧ ¬ ((c = 2 ∨ c = 4) ∧ f = 0) ∧ ¬ ((b = 2 ∨ b = 4) ∧ e = 0) ∧ ¬ ((a = 2 ∨ a = 4) ∧ d = 0))) (fun k => (intOf k + 1).toNat)
    case atStart => exact .inl rfl
    case round =>
      rcases hrel with rfl | ⟨rfl, n2⟩ | ⟨rfl, n2, n1⟩ | ⟨rfl, n2, n1, n0⟩
      · by_cases hu : f = 0
        · by_cases h2 : c = 2
          · have HQ := Lib.hid (show onOf ⟨a, b, c, d, e, f, x⟩ = ⟨a, b, c, d, e, 1, x⟩ from (onOf_bwd HK.out).trans (by simp [hu, h2]))
            have hub : (f == 0) = true := by simpa using hu
            have h2b : (c == 2) = true := by simpa using h2
            clear hu h2
            go_wp2_with fail
            refine bodyPost_ret (v := sagaV o ⟨a, b, c, d, e, 1, x⟩) (by unfold sagaV; simp [results, Tryz.results133, go_sem, *]) rfl ⟨by rw [HQ.out], (by with_reducible (repeat (first | exact Below.refl _ _ | refine Below.alloc ?_ (by first | (simp; done) | omega | (simp; omega)) _ | refine Below.setCell ?_ (by first | (simp; done) | omega | (simp; omega)) _ | refine Below.trans ?_ (Below.mono (by assumption) (by first | (simp; done) | omega | (simp; omega))))))⟩
          · by_cases h4 : c = 4
            · have HQ := Lib.hid (show onOf ⟨a, b, c, d, e, f, x⟩ = ⟨a, b, c, d, e, 1, x⟩ from (onOf_bwd HK.out).trans (by simp [hu, h4]))
              have hub : (f == 0) = true := by simpa using hu
              have h2b : (c == 2) = false := by simpa using h2
              have h4b : (c == 4) = true := by simpa using h4
              clear hu h2 h4
              go_wp2_with fail
              refine bodyPost_ret (v := sagaV o ⟨a, b, c, d, e, 1, x⟩) (by unfold sagaV; simp [results, Tryz.results133, go_sem, *]) rfl ⟨by rw [HQ.out], (by with_reducible (repeat (first | exact Below.refl _ _ | refine Below.alloc ?_ (by first | (simp; done) | omega | (simp; omega)) _ | refine Below.setCell ?_ (by first | (simp; done) | omega | (simp; omega)) _ | refine Below.trans ?_ (Below.mono (by assumption) (by first | (simp; done) | omega | (simp; omega))))))⟩
            · have h2b : (c == 2) = false := by simpa using h2
              have h4b : (c == 4) = false := by simpa using h4
              have NN := Lib.hid (show ¬ ((c = 2 ∨ c = 4) ∧ f = 0) from fun h => h.1.elim h2 h4)
              clear hu h2 h4
              go_wp2_with fail
              go_round
              case rel => exact .inr (.inl ⟨rfl, NN.out⟩)
              case measure => simp [intOf] <;> omega
        · have NN := Lib.hid (show ¬ ((c = 2 ∨ c = 4) ∧ f = 0) from fun h => hu h.2)
          have hub : (f == 0) = false := by simpa using hu
          clear hu
          by_cases h2 : c = 2
          · have h2b : (c == 2) = true := by simpa using h2
            clear h2
            go_wp2_with fail
            go_round
            case rel => exact .inr (.inl ⟨rfl, NN.out⟩)
            case measure => simp [intOf] <;> omega
          · have h2b : (c == 2) = false := by simpa using h2
            clear h2
            by_cases h4 : c = 4
            · have h4b : (c == 4) = true := by simpa using h4
              clear h4
              go_wp2_with fail
              go_round
              case rel => exact .inr (.inl ⟨rfl, NN.out⟩)
              case measure => simp [intOf] <;> omega
            · have h4b : (c == 4) = false := by simpa using h4
              clear h4
              go_wp2_with fail
              go_round
              case rel => exact .inr (.inl ⟨rfl, NN.out⟩)
              case measure => simp [intOf] <;> omega
      · have N2 := Lib.hid n2
        clear n2
        by_cases hu : e = 0
        · by_cases h2 : b = 2
          · have HQ := Lib.hid (show onOf ⟨a, b, c, d, e, f, x⟩ = ⟨a, b, c, d, 1, f, x⟩ from (onOf_bwd HK.out).trans (by rw [if_neg N2.out]; simp [hu, h2]))
            have hub : (e == 0) = true := by simpa using hu
            have h2b : (b == 2) = true := by simpa using h2
            clear hu h2
            go_wp2_with fail
            refine bodyPost_ret (v := sagaV o ⟨a, b, c, d, 1, f, x⟩) (by unfold sagaV; simp [results, Tryz.results133, go_sem, *]) rfl ⟨by rw [HQ.out], (by with_reducible (repeat (first | exact Below.refl _ _ | refine Below.alloc ?_ (by first | (simp; done) | omega | (simp; omega)) _ | refine Below.setCell ?_ (by first | (simp; done) | omega | (simp; omega)) _ | refine Below.trans ?_ (Below.mono (by assumption) (by first | (simp; done) | omega | (simp; omega))))))⟩
          · by_cases h4 : b = 4
            · have HQ := Lib.hid (show onOf ⟨a, b, c, d, e, f, x⟩ = ⟨a, b, c, d, 1, f, x⟩ from (onOf_bwd HK.out).trans (by rw [if_neg N2.out]; simp [hu, h4]))
              have hub : (e == 0) = true := by simpa using hu
              have h2b : (b == 2) = false := by simpa using h2
              have h4b : (b == 4) = true := by simpa using h4
              clear hu h2 h4
              go_wp2_with fail
              refine bodyPost_ret (v := sagaV o ⟨a, b, c, d, 1, f, x⟩) (by unfold sagaV; simp [results, Tryz.results133, go_sem, *]) rfl ⟨by rw [HQ.out], (by with_reducible (repeat (first | exact Below.refl _ _ | refine Below.alloc ?_ (by first | (simp; done) | omega | (simp; omega)) _ | refine Below.setCell ?_ (by first | (simp; done) | omega | (simp; omega)) _ | refine Below.trans ?_ (Below.mono (by assumption) (by first | (simp; done) | omega | (simp; omega))))))⟩
            · have h2b : (b == 2) = false := by simpa using h2
              have h4b : (b == 4) = false := by simpa using h4
              have NN := Lib.hid (show ¬ ((b = 2 ∨ b = 4) ∧ e = 0) from fun h => h.1.elim h2 h4)
              clear hu h2 h4
              go_wp2_with fail
              go_round
              case rel => exact .inr (.inr (.inl ⟨rfl, N2.out, NN.out⟩))
              case measure => simp [intOf] <;> omega
        · have NN := Lib.hid (show ¬ ((b = 2 ∨ b = 4) ∧ e = 0) from fun h => hu h.2)
          have hub : (e == 0) = false := by simpa using hu
          clear hu
          by_cases h2 : b = 2
          · have h2b : (b == 2) = true := by simpa using h2
            clear h2
            go_wp2_with fail
            go_round
            case rel => exact .inr (.inr (.inl ⟨rfl, N2.out, NN.out⟩))
            case measure => simp [intOf] <;> omega
          · have h2b : (b == 2) = false := by simpa using h2
            clear h2
            by_cases h4 : b = 4
            · have h4b : (b == 4) = true := by simpa using h4
              clear h4
              go_wp2_with fail
              go_round
              case rel => exact .inr (.inr (.inl ⟨rfl, N2.out, NN.out⟩))
              case measure => simp [intOf] <;> omega
            · have h4b : (b == 4) = false := by simpa using h4
              clear h4
              go_wp2_with fail
              go_round
              case rel => exact .inr (.inr (.inl ⟨rfl, N2.out, NN.out⟩))
              case measure => simp [intOf] <;> omega
      · have N2 := Lib.hid n2
        clear n2
        have N1 := Lib.hid n1
        clear n1
        by_cases hu : d = 0
        · by_cases h2 : a = 2
          · have HQ := Lib.hid (show onOf ⟨a, b, c, d, e, f, x⟩ = ⟨a, b, c, 1, e, f, x⟩ from (onOf_bwd HK.out).trans (by rw [if_neg N2.out]; rw [if_neg N1.out]; simp [hu, h2]))
            have hub : (d == 0) = true := by simpa using hu
            have h2b : (a == 2) = true := by simpa using h2
            clear hu h2
            go_wp2_with fail
            refine bodyPost_ret (v := sagaV o ⟨a, b, c, 1, e, f, x⟩) (by unfold sagaV; simp [results, Tryz.results133, go_sem, *]) rfl ⟨by rw [HQ.out], (by with_reducible (repeat (first | exact Below.refl _ _ | refine Below.alloc ?_ (by first | (simp; done) | omega | (simp; omega)) _ | refine Below.setCell ?_ (by first | (simp; done) | omega | (simp; omega)) _ | refine Below.trans ?_ (Below.mono (by assumption) (by first | (simp; done) | omega | (simp; omega))))))⟩
          · by_cases h4 : a = 4
            · have HQ := Lib.hid (show onOf ⟨a, b, c, d, e, f, x⟩ = ⟨a, b, c, 1, e, f, x⟩ from (onOf_bwd HK.out).trans (by rw [if_neg N2.out]; rw [if_neg N1.out]; simp [hu, h4]))
              have hub : (d == 0) = true := by simpa using hu
              have h2b : (a == 2) = false := by simpa using h2
              have h4b : (a == 4) = true := by simpa using h4
              clear hu h2 h4
              go_wp2_with fail
              refine bodyPost_ret (v := sagaV o ⟨a, b, c, 1, e, f, x⟩) (by unfold sagaV; simp [results, Tryz.results133, go_sem, *]) rfl ⟨by rw [HQ.out], (by with_reducible (repeat (first | exact Below.refl _ _ | refine Below.alloc ?_ (by first | (simp; done) | omega | (simp; omega)) _ | refine Below.setCell ?_ (by first | (simp; done) | omega | (simp; omega)) _ | refine Below.trans ?_ (Below.mono (by assumption) (by first | (simp; done) | omega | (simp; omega))))))⟩
            · have h2b : (a == 2) = false := by simpa using h2
              have h4b : (a == 4) = false := by simpa using h4
              have NN := Lib.hid (show ¬ ((a = 2 ∨ a = 4) ∧ d = 0) from fun h => h.1.elim h2 h4)
              clear hu h2 h4
              go_wp2_with fail
              go_round
              case rel => exact .inr (.inr (.inr ⟨rfl, N2.out, N1.out, NN.out⟩))
              case measure => simp [intOf] <;> omega
        · have NN := Lib.hid (show ¬ ((a = 2 ∨ a = 4) ∧ d = 0) from fun h => hu h.2)
          have hub : (d == 0) = false := by simpa using hu
          clear hu
          by_cases h2 : a = 2
          · have h2b : (a == 2) = true := by simpa using h2
            clear h2
            go_wp2_with fail
            go_round
            case rel => exact .inr (.inr (.inr ⟨rfl, N2.out, N1.out, NN.out⟩))
            case measure => simp [intOf] <;> omega
          · have h2b : (a == 2) = false := by simpa using h2
            clear h2
            by_cases h4 : a = 4
            · have h4b : (a == 4) = true := by simpa using h4
              clear h4
              go_wp2_with fail
              go_round
              case rel => exact .inr (.inr (.inr ⟨rfl, N2.out, N1.out, NN.out⟩))
              case measure => simp [intOf] <;> omega
            · have h4b : (a == 4) = false := by simpa using h4
              clear h4
              go_wp2_with fail
              go_round
              case rel => exact .inr (.inr (.inr ⟨rfl, N2.out, N1.out, NN.out⟩))
              case measure => simp [intOf] <;> omega
      · have HQ := Lib.hid (show onOf ⟨a, b, c, d, e, f, x⟩ = ⟨a, b, c, d, e, f, x⟩ from (onOf_bwd HK.out).trans (by rw [if_neg n2, if_neg n1, if_neg n0]))
        clear n2 n1 n0
        go_wp2_with fail
        refine bodyPost_ret (v := sagaV o ⟨a, b, c, d, e, f, x⟩) (by unfold sagaV; simp [results, Tryz.results133, go_sem, *]) rfl ⟨by rw [HQ.out], (by with_reducible (repeat (first | exact Below.refl _ _ | refine Below.alloc ?_ (by first | (simp; done) | omega | (simp; omega)) _ | refine Below.setCell ?_ (by first | (simp; done) | omega | (simp; omega)) _ | refine Below.trans ?_ (Below.mono (by assumption) (by first | (simp; done) | omega | (simp; omega))))))⟩
end Go.Proofs.YtibabfedpdoofaaGreatDoor
namespace Go.Proofs.YtibabfedpdoofaaGreatDoor
open Go.RowKit Go.Own

set_option maxHeartbeats 2000000 in
set_option maxRecDepth 100000 in
theorem refSagaNet_any (o : OrdS) (s : D6) (w : World) : Calls Tryz.prog 76 #[sagaV o s] w fun e w' => e = .returned (.int .i64 (netS o s)) ∧ Below w.heap.size w w' := by
  obtain ⟨a, b, c, d, e, f, x⟩ := s
  rw [(show sagaV o ⟨a, b, c, d, e, f, x⟩ = .agg #[.int .i64 o.id, .string ⟨o.ref.toArray⟩, .string ⟨o.sku.toArray⟩, .int .i64 o.qty, .int .i64 o.amt, .int .i64 a, .int .i64 b, .int .i64 c, .int .i64 d, .int .i64 e, .int .i64 f, .bool x] from rfl)]
  by_cases h1 : b = 2
  · by_cases h2 : e = 2
    · have HQ := Lib.hid (show netS o ⟨a, b, c, d, e, f, x⟩ = 0 by simp [netS, h2])
      have h1b : (b == 2) = true := by simpa using h1
      have h2b : (e != 2) = false := by simpa using h2
      clear h1 h2
      go_enter Tryz.func76, Tryz.ntmps76
      go_wp2_with fail
      go_ret
      exact ⟨by rw [HQ.out]; rfl, (by with_reducible (repeat (first | exact Below.refl _ _ | refine Below.alloc ?_ (by first | (simp; done) | omega | (simp; omega)) _)))⟩
    · have HQ := Lib.hid (show netS o ⟨a, b, c, d, e, f, x⟩ = o.amt by simp [netS, h1, h2])
      have h1b : (b == 2) = true := by simpa using h1
      have h2b : (e != 2) = true := by simpa using h2
      clear h1 h2
      go_enter Tryz.func76, Tryz.ntmps76
      go_wp2_with fail
      go_ret
      exact ⟨by rw [HQ.out]; rfl, (by with_reducible (repeat (first | exact Below.refl _ _ | refine Below.alloc ?_ (by first | (simp; done) | omega | (simp; omega)) _)))⟩
  · have HQ := Lib.hid (show netS o ⟨a, b, c, d, e, f, x⟩ = 0 by simp [netS, h1])
    have h1b : (b == 2) = false := by simpa using h1
    clear h1
    go_enter Tryz.func76, Tryz.ntmps76
    go_wp2_with fail
    go_ret
    exact ⟨by rw [HQ.out]; rfl, (by with_reducible (repeat (first | exact Below.refl _ _ | refine Below.alloc ?_ (by first | (simp; done) | omega | (simp; omega)) _)))⟩

set_option maxHeartbeats 2000000 in
theorem refBegin_any (o : OrdS) (w : World) : Calls Tryz.prog 85 #[ordV o] w fun e w' => e = .returned (sagaV o beginD) ∧ Below w.heap.size w w' := by
  rw [show ordV o = .agg #[.int .i64 o.id, .string ⟨o.ref.toArray⟩, .string ⟨o.sku.toArray⟩, .int .i64 o.qty, .int .i64 o.amt] from rfl]
  go_enter Tryz.func85, Tryz.ntmps85
  go_wp2_with fail
  refine bodyPost_ret (v := sagaV o beginD) (by unfold sagaV; simp [results, Tryz.results85, go_sem, beginD]) rfl ⟨rfl, (by with_reducible (repeat (first | exact Below.refl _ _ | refine Below.alloc ?_ (by first | (simp; done) | omega | (simp; omega)) _)))⟩
end Go.Proofs.YtibabfedpdoofaaGreatDoor

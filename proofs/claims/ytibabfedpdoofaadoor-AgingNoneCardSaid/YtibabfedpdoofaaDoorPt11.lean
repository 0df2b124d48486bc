/-
  A core's Apply: a statement, by walking the program's text; conditions: the core is one that entries come to, the rows lie in memory. (Printed by wip/mkcore.py of wip/corestmt.src.)
  A core's Apply: a statement that is accepted, by walking the program's text; conditions: the core is one that entries come to, the rows lie in memory. (Printed by wip/mkcore.py of wip/corestmt2.src.)
  What is wrong with an entry, by walking both texts; conditions: the rows lie in memory, texts no longer than memory bears, the table of parties as laid.
  sum 49a09ee86c0e72e03d23d9740b3b27ad14c28e1a
-/
import Derived.Test.YtibabfedpdoofaaDoorPt1
import Derived.Test.YtibabfedpdoofaaDoorPt2
import Derived.Test.YtibabfedpdoofaaDoorPt4
import Derived.Test.YtibabfedpdoofaaDoorPt5
import Derived.Test.YtibabfedpdoofaaDoorPt10
namespace Go.Proofs.YtibabfedpdoofaaDoor
open Go.RowKit Go.Own Go.Maps

/-- Rows that stand in old memory, or in some pieces of one's own. -/
def RowsIn (W : World) (M : List Ent) (v : Value) (rs : List RowS) : Prop := ∀ (w' : World) (L' : List Ent), Own W w' L' → (∀ e ∈ M, e ∈ L') → IsRows w' v rs
theorem RowsIn.old {W : World} {v : Value} {rs : List RowS} (h : IsRows W v rs) (M : List Ent) : RowsIn W M v rs := fun _ _ hO _ => h.below hO.grown h.lt
theorem RowsIn.more {W : World} {M : List Ent} {v : Value} {rs : List RowS} (h : RowsIn W M v rs) (Z : Ent) : RowsIn W (Z :: M) v rs := fun w' L' hO hm => h w' L' hO (fun e he => hm e (List.mem_cons_of_mem _ he))
/-- What a statement's posting is called. -/
def sidK (q o : Int) : ByteArray := ⟨#[115]⟩ ++ ⟨(Lib.itoa q).toArray⟩ ++ ⟨#[45]⟩ ++ ⟨(Lib.itoa o).toArray⟩
def stPst (q o x : Int) : Pst := if x < 0 then ⟨sidK q o, o, 1, 2, -x⟩ else ⟨sidK q o, o, 2, 1, x⟩
def stmtP (P : List Pst) (f : Int → Int) (q : Int) : Nat → List Pst
  | 0 => P
  | k + 1 => if f ((k : Int) + 1) = 0 then stmtP P f q k else postL (stmtP P f q k) (stPst q ((k : Int) + 1) (f ((k : Int) + 1)))
def byI (A B : InS) (o : Int) : Int := netI B o - netI A o
theorem sidK_size {q o : Int} (h0 : 0 ≤ q) (h1 : q ≤ 1073741824) (h2 : 0 ≤ o) (h3 : o ≤ 1000) : (sidK q o).size ≤ 60 := by
  have h4 : (Lib.itoa q).length ≤ 21 := Lib.itoa_length_le q (by omega) (by omega)
  have h5 : (Lib.itoa o).length ≤ 21 := Lib.itoa_length_le o (by omega) (by omega)
  unfold sidK
  rw [ByteArray.size_append, ByteArray.size_append, ByteArray.size_append]
  show 1 + (Lib.itoa q).length + 1 + (Lib.itoa o).length ≤ 60
  omega
theorem stmtP_ok {P : List Pst} (h : Bk P) (f : Int → Int) (q : Int) : ∀ k, Bk (stmtP P f q k) ∧ (stmtP P f q k).length ≤ P.length + k
  | 0 => ⟨h, by simp [stmtP]⟩
  | k + 1 => by
    obtain ⟨h1, h2⟩ := stmtP_ok h f q k
    unfold stmtP
    split
    · exact ⟨h1, by omega⟩
    · refine ⟨h1.post _, ?_⟩
      have : ∀ (l : List Pst) p, (postL l p).length ≤ l.length + 1 := fun l p => by
        unfold postL
        split
        · simp
        · omega
      have := this (stmtP P f q k) (stPst q ((k : Int) + 1) (f ((k : Int) + 1)))
      omega
theorem netI_bound {A : InS} (h : InOk A) (o : Int) : -1099511627776 ≤ netI A o ∧ netI A o ≤ 1099511627776 := by
  have h1 := rowOf_bound h o 1
  have h4 := rowOf_bound h o 4
  unfold netI
  omega
/-- An intake with a statement, taken of the pieces of the one ahead. -/
def inAcc (i : InA) (p : Int) (u m : Value) : InA := ⟨if p = 0 then u else i.v0, if p = 1 then u else i.v1, if p = 2 then u else i.v2, m⟩
noncomputable def accK (i : InA) (A : InS) (b n : Nat) (g : Lit → Option Value) (u : Value) (rs : List RowS) : List Ent := [mapE Tryd.prog 35 b n g, row 73 5 u (rs.map rowC), isl 5 i.v0 (A.r0.map rowC), isl 5 i.v1 (A.r1.map rowC), isl 5 i.v2 (A.r2.map rowC), mapM i.m (allF A)]
/-- What these pieces say of both. -/
structure BothAt (w : World) (x i : InA) (B A : InS) : Prop where
  x0 : IsRows w x.v0 B.r0
  x1 : IsRows w x.v1 B.r1
  x2 : IsRows w x.v2 B.r2
  xm : MapIs x.m (allF B) w
  i0 : IsRows w i.v0 A.r0
  i1 : IsRows w i.v1 A.r1
  i2 : IsRows w i.v2 A.r2
  im : MapIs i.m (allF A) w
theorem accK_at {w : World} {i : InA} {A : InS} {b n : Nat} {u : Value} {p q : Int} {rs : List RowS} (hp : p = 0 ∨ p = 1 ∨ p = 2) (h : ∀ e ∈ accK i A b n (allF (A.put p q rs)) u rs, e.F w) : BothAt w (inAcc i p u (.map (some b))) i (A.put p q rs) A := by
  have hm := h _ (.head _)
  have hu : IsRows w u rs := isRows_of_isL (isL_of_owns (rowC_len rs) (h _ (.tail _ (.head _))))
  have g0 : IsRows w i.v0 A.r0 := isRows_of_isL (h _ (.tail _ (.tail _ (.head _))))
  have g1 : IsRows w i.v1 A.r1 := isRows_of_isL (h _ (.tail _ (.tail _ (.tail _ (.head _)))))
  have g2 : IsRows w i.v2 A.r2 := isRows_of_isL (h _ (.tail _ (.tail _ (.tail _ (.tail _ (.head _))))))
  have gm := h _ (.tail _ (.tail _ (.tail _ (.tail _ (.tail _ (.head _))))))
  rcases hp with rfl | rfl | rfl
  · exact ⟨hu, g1, g2, .inr ⟨b, n, rfl, hm⟩, g0, g1, g2, gm⟩
  · exact ⟨g0, hu, g2, .inr ⟨b, n, rfl, hm⟩, g0, g1, g2, gm⟩
  · exact ⟨g0, g1, hu, .inr ⟨b, n, rfl, hm⟩, g0, g1, g2, gm⟩
theorem accK_end {W w : World} {i : InA} {A : InS} {b n : Nat} {u : Value} {p q : Int} {rs : List RowS} {x y z : Ent} {M : List Ent} (hp : p = 0 ∨ p = 1 ∨ p = 2) (h : Own W w (x :: y :: z :: (accK i A b n (allF (A.put p q rs)) u rs ++ M))) : Own W w (x :: y :: z :: (inPs (inAcc i p u (.map (some b))) (A.put p q rs) ++ M)) := by
  unfold accK at h
  simp only [List.cons_append, List.nil_append] at h
  have h1 := Own.rowIsl (Own.mapIsM h (.tail _ _ _ (.tail _ _ _ (.tail _ _ _ (.head _))))) (.tail _ _ _ (.tail _ _ _ (.tail _ _ _ (.tail _ _ _ (.head _)))))
  have h2 := Own.sub h1 (L' := x :: y :: z :: mapM (.map (some b)) (allF (A.put p q rs)) :: isl 5 u (rs.map rowC) :: isl 5 i.v0 (A.r0.map rowC) :: isl 5 i.v1 (A.r1.map rowC) :: isl 5 i.v2 (A.r2.map rowC) :: M) (.cons_cons _ (.cons_cons _ (.cons_cons _ (.cons_cons _ (.cons_cons _ (.cons_cons _ (.cons_cons _ (.cons_cons _ (.cons _ (List.Sublist.refl _))))))))))
  have h3 := h2.perm (((List.perm_append_comm (l₁ := [mapM (.map (some b)) (allF (A.put p q rs))]) (l₂ := [isl 5 u (rs.map rowC), isl 5 i.v0 (A.r0.map rowC), isl 5 i.v1 (A.r1.map rowC), isl 5 i.v2 (A.r2.map rowC)])).append_right M).cons z |>.cons y |>.cons x)
  simp only [List.cons_append, List.nil_append] at h3
  unfold inPs
  simp only [List.cons_append, List.nil_append]
  rcases hp with rfl | rfl | rfl
  · exact h3.sub (.cons_cons _ (.cons_cons _ (.cons_cons _ (.cons_cons _ (.cons _ (List.Sublist.refl _))))))
  · exact (h3.sub (.cons_cons _ (.cons_cons _ (.cons_cons _ (.cons_cons _ (.cons_cons _ (.cons _ (List.Sublist.refl _)))))))).perm ((List.Perm.swap _ _ _).cons _ |>.cons _ |>.cons _)
  · exact (h3.sub (.cons_cons _ (.cons_cons _ (.cons_cons _ (.cons_cons _ (.cons_cons _ (.cons_cons _ (.cons _ (List.Sublist.refl _))))))))).perm (((List.Perm.swap _ _ _).trans ((List.Perm.swap _ _ _).cons _)).cons _ |>.cons _ |>.cons _)

set_option maxHeartbeats 32000000 in
set_option maxRecDepth 100000 in
theorem coStmt_no {W w : World} {M : List Ent} {a : CoA} {S : CoS} {i : InA} {A : InS} {v : Value} (p q : Int) (rs : List RowS) (HO : Own W w (coPs a S i A ++ (inPs i A ++ M))) (hrs : RowsIn W M v rs) (hA : InOk A) (hL : LaidE W) (hacc : accE A p q rs ≠ 0) :
    Calls Tryd.prog 32 #[.pointer (some ⟨a.c, 0, none⟩), .agg #[.int .i64 p, .int .i64 q, v]] w fun e w' => e = .returned (.int .i64 (accE A p q rs)) ∧ Own W w' (coPs a S i A ++ (inPs i A ++ M)) := by
  obtain ⟨ac, av, ak, au, apm, abm⟩ := a
  obtain ⟨v0, v1, v2, m⟩ := i
  have hsl := (hrs _ _ HO (fun e he => List.mem_append_right _ (List.mem_append_right _ he))).slice
  have AC := Lib.hid (fun (w : World) (L : List Ent) (h : Own W w L) (h0 : isl 5 v0 (A.r0.map rowC) ∈ L) (h1 : isl 5 v1 (A.r1.map rowC) ∈ L) (h2 : isl 5 v2 (A.r2.map rowC) ∈ L) (hm : mapM m (allF A) ∈ L) (hM : ∀ e ∈ M, e ∈ L) => show Calls Tryd.prog 51 #[.agg #[.int .i64 (A).p0, .int .i64 (A).q0, v0, .int .i64 (A).p1, .int .i64 (A).q1, v1, .int .i64 (A).p2, .int .i64 (A).q2, v2, m], .agg #[.int .i64 p, .int .i64 q, v]] w fun e w' => e = .returned (.tuple #[.agg #[.int .i64 0, .int .i64 0, .slice none 0 0, .int .i64 0, .int .i64 0, .slice none 0 0, .int .i64 0, .int .i64 0, .slice none 0 0, .map none], .int .i64 (accE A p q rs)]) ∧ Below w.heap.size w w' from by
    refine (accept_any A p q rs (isRows_of_isL (h.has _ h0)) (isRows_of_isL (h.has _ h1)) (isRows_of_isL (h.has _ h2)) (hrs w L h hM) hA (h.has _ hm).form (hL.p.below h.grown hL.p.1)).mono ?_
    intro e w' he
    unfold AccPost at he
    rw [if_neg hacc] at he
    exact he)
  unfold coPs coC inPs at HO
  simp only [List.cons_append, List.nil_append] at HO
  obtain ⟨s0, c0, rfl, -⟩ := hsl
  unfold coPs coC inPs
  simp only [List.cons_append, List.nil_append]
  generalize accE A p q rs = ex at *
  go_enter Tryd.func32, Tryd.ntmps32
  go_upto_region 1 with (first | go_big_skip | (first | go_big_skip | ((with_reducible apply wpList_loadAll HO); exact rfl; exact rfl; (repeat (with_reducible (first | exact At.head _ | apply At.tail))); infer_instance; exact rfl; exact rfl; (simp only [Act.put, List.setIfInBounds_toArray, List.set_cons_succ, List.set_cons_zero])) | ((with_reducible apply wpList_loadOne HO); exact rfl; exact rfl; (repeat (with_reducible (first | exact At.head _ | apply At.tail))); exact rfl; infer_instance; exact rfl; (simp only [Act.put, List.setIfInBounds_toArray, List.set_cons_succ, List.set_cons_zero]))) | ((with_reducible apply wpList_storeAll HO); exact rfl; exact rfl; exact rfl; (repeat (with_reducible (first | exact At.head _ | apply At.tail))); infer_instance; exact rfl; exact rfl; exact rfl; exact rfl; clear HO; intro w HO; (simp only [Act.put])) | (first | ((with_reducible apply wpList_boxAgg _ HO rfl); exact rfl; exact rfl; exact rfl; clear HO; intro b1 w HO; (simp only [Act.put, List.setIfInBounds_toArray, List.set_cons_succ, List.set_cons_zero])) | ((with_reducible apply wpList_allocAgg _ HO rfl); exact rfl; infer_instance; exact rfl; clear HO; intro b1 w HO; (simp only [Act.put, List.setIfInBounds_toArray, List.set_cons_succ, List.set_cons_zero]))))
  go_cut [5, 6] (fun x e wx => ∃ b5, x = .pointer (some ⟨b5, 0, none⟩) ∧ e = .int .i64 ex ∧ Own W wx (box b5 (.cells #[.int .i64 0, .int .i64 0, .slice none 0 0, .int .i64 0, .int .i64 0, .slice none 0 0, .int .i64 0, .int .i64 0, .slice none 0 0, .map none] 80) :: box b1 (.cells #[.int .i64 p, .int .i64 q, .slice s0 rs.length c0] 38) ::
    box ac (.cells #[av, .pointer (some ⟨ak, 0, none⟩), .int .i64 A.p0, .int .i64 A.q0, v0, .int .i64 A.p1, .int .i64 A.q1, v1, .int .i64 A.p2, .int .i64 A.q2, v2, m] 82) :: row 52 12 av (S.L.map sagaL) :: bkE ak au apm abm S.P :: isl 5 v0 (A.r0.map rowC) :: isl 5 v1 (A.r1.map rowC) :: isl 5 v2 (A.r2.map rowC) :: mapM m (allF A) :: M))
  case first =>
      refine region_tree [box b1 (.cells #[.int .i64 p, .int .i64 q, .slice s0 rs.length c0] 38), box ac (.cells #[av, .pointer (some ⟨ak, 0, none⟩), .int .i64 A.p0, .int .i64 A.q0, v0, .int .i64 A.p1, .int .i64 A.q1, v1, .int .i64 A.p2, .int .i64 A.q2, v2, m] 82)] [(0, true), (1, true), (2, true), (3, true), (4, true), (6, true), (7, true), (8, true), (11, true)] (.fork [(0, true), (1, true), (2, true), (3, true), (4, true)] 5 9 (.fin [(6, true), (7, true), (8, true), (9, false), (10, false), (11, true)]) (.fin [(5, false), (6, true), (7, true), (8, true), (10, false), (11, true)])) HO (by with_reducible (repeat (first | exact List.nil_sublist _ | apply List.Sublist.cons_cons | apply List.Sublist.cons))) (by kernel_rfl) (by kernel_rfl) ?_
      clear HO
      intro w HO
      refine wpS_fork ?_
      repeat (first | ((with_reducible apply wpSched_loadAll); exact rfl; exact rfl; exact rfl; (repeat (with_reducible (first | exact At.head _ | apply At.tail))); infer_instance; exact rfl; exact rfl; (simp only [Act.put, List.setIfInBounds_toArray, List.set_cons_succ, List.set_cons_zero])) | ((with_reducible apply wpSched_loadOne); exact rfl; exact rfl; exact rfl; (repeat (with_reducible (first | exact At.head _ | apply At.tail))); exact rfl; infer_instance; exact rfl; (simp only [Act.put, List.setIfInBounds_toArray, List.set_cons_succ, List.set_cons_zero])) | ((with_reducible apply wpSched_loadPart); exact rfl; exact rfl; (first | (simp [Act.eval]; rfl) | exact rfl); (repeat (with_reducible (first | exact At.head _ | apply At.tail))); infer_instance; exact (Nat.le_of_ble_eq_true rfl); (simp only [List.drop_succ_cons, List.drop_zero, List.take_succ_cons, List.take_zero]; rfl); exact rfl; (simp only [Act.put, List.setIfInBounds_toArray, List.set_cons_succ, List.set_cons_zero])) | ((with_reducible apply wpSched_pure); exact rfl; exact rfl; (intro w'; go_simp; try with_reducible rfl); (simp only [Act.put, List.setIfInBounds_toArray, List.set_cons_succ, List.set_cons_zero])))
      refine fork_end rfl rfl ?_ ?_
      · go_wp2_with ((go_at_call 51; go_must ((with_reducible refine (AC.out _ _ HO (by repeat (first | exact List.mem_cons_self | apply List.mem_cons_of_mem)) (by repeat (first | exact List.mem_cons_self | apply List.mem_cons_of_mem)) (by repeat (first | exact List.mem_cons_self | apply List.mem_cons_of_mem)) (by repeat (first | exact List.mem_cons_self | apply List.mem_cons_of_mem)) (by intro e he; repeat (first | exact he | apply List.mem_cons_of_mem))).mono ?_); rintro e w ⟨rfl, hb⟩; replace HO := HO.call hb; clear hb)))
        refine thenQ_keep (HO.held (by with_reducible (repeat (first | exact List.nil_sublist _ | apply List.Sublist.cons_cons | apply List.Sublist.cons)))) ?_
        refine wpS_fin ?_
        repeat (first | ((with_reducible apply wpSched_loadAll); exact rfl; exact rfl; exact rfl; (repeat (with_reducible (first | exact At.head _ | apply At.tail))); infer_instance; exact rfl; exact rfl; (simp only [Act.put, List.setIfInBounds_toArray, List.set_cons_succ, List.set_cons_zero])) | ((with_reducible apply wpSched_loadOne); exact rfl; exact rfl; exact rfl; (repeat (with_reducible (first | exact At.head _ | apply At.tail))); exact rfl; infer_instance; exact rfl; (simp only [Act.put, List.setIfInBounds_toArray, List.set_cons_succ, List.set_cons_zero])) | ((with_reducible apply wpSched_loadPart); exact rfl; exact rfl; (first | (simp [Act.eval]; rfl) | exact rfl); (repeat (with_reducible (first | exact At.head _ | apply At.tail))); infer_instance; exact (Nat.le_of_ble_eq_true rfl); (simp only [List.drop_succ_cons, List.drop_zero, List.take_succ_cons, List.take_zero]; rfl); exact rfl; (simp only [Act.put, List.setIfInBounds_toArray, List.set_cons_succ, List.set_cons_zero])) | ((with_reducible apply wpSched_pure); exact rfl; exact rfl; (intro w'; go_simp; try with_reducible rfl); (simp only [Act.put, List.setIfInBounds_toArray, List.set_cons_succ, List.set_cons_zero])))
        ((with_reducible apply wpSched_loud); exact rfl; (first | ((with_reducible apply wpList_boxAgg _ HO rfl); exact rfl; exact rfl; exact rfl; clear HO; intro b5 w HO; (simp only [Act.put, List.setIfInBounds_toArray, List.set_cons_succ, List.set_cons_zero])) | ((with_reducible apply wpList_allocAgg _ HO rfl); exact rfl; infer_instance; exact rfl; clear HO; intro b5 w HO; (simp only [Act.put, List.setIfInBounds_toArray, List.set_cons_succ, List.set_cons_zero])) | ((with_reducible apply wpList_boxOne _ HO rfl); exact rfl; (first | (simp [Act.eval]; rfl) | exact rfl); exact rfl; exact rfl; clear HO; intro b5 w HO; (simp only [Act.put, List.setIfInBounds_toArray, List.set_cons_succ, List.set_cons_zero])) | ((with_reducible apply wpList_alloc _ HO rfl); exact rfl; infer_instance; exact rfl; exact rfl; clear HO; intro b5 w HO; (simp only [Act.put, List.setIfInBounds_toArray, List.set_cons_succ, List.set_cons_zero]))))
        refine wpList_nil (thenQ_keep (HO.held (by with_reducible (repeat (first | exact List.nil_sublist _ | apply List.Sublist.cons_cons | apply List.Sublist.cons)))) ?_)
        ((with_reducible apply wpSched_loud); exact rfl; ((with_reducible apply wpList_storeAll HO); exact rfl; exact rfl; exact rfl; (repeat (with_reducible (first | exact At.head _ | apply At.tail))); infer_instance; exact rfl; exact rfl; exact rfl; exact rfl; clear HO; intro w HO; (simp only [Act.put])))
        refine wpList_nil (thenQ_keep (HO.held (by with_reducible (repeat (first | exact List.nil_sublist _ | apply List.Sublist.cons_cons | apply List.Sublist.cons)))) ?_)
        repeat ((with_reducible apply wpSched_pure); exact rfl; exact rfl; (intro w'; go_simp; try with_reducible rfl); (simp only [Act.put, List.setIfInBounds_toArray, List.set_cons_succ, List.set_cons_zero]))
        refine wpSched_end ?_
        go_wp2_with fail
        go_meet
        exact ⟨b5, rfl, rfl, HO⟩
      · (first | ((with_reducible apply wpList_boxAgg _ HO rfl); exact rfl; exact rfl; exact rfl; clear HO; intro b5 w HO; (simp only [Act.put, List.setIfInBounds_toArray, List.set_cons_succ, List.set_cons_zero])) | ((with_reducible apply wpList_allocAgg _ HO rfl); exact rfl; infer_instance; exact rfl; clear HO; intro b5 w HO; (simp only [Act.put, List.setIfInBounds_toArray, List.set_cons_succ, List.set_cons_zero])) | ((with_reducible apply wpList_boxOne _ HO rfl); exact rfl; (first | (simp [Act.eval]; rfl) | exact rfl); exact rfl; exact rfl; clear HO; intro b5 w HO; (simp only [Act.put, List.setIfInBounds_toArray, List.set_cons_succ, List.set_cons_zero])) | ((with_reducible apply wpList_alloc _ HO rfl); exact rfl; infer_instance; exact rfl; exact rfl; clear HO; intro b5 w HO; (simp only [Act.put, List.setIfInBounds_toArray, List.set_cons_succ, List.set_cons_zero])))
        refine wpList_nil (thenQ_keep (HO.held (by with_reducible (repeat (first | exact List.nil_sublist _ | apply List.Sublist.cons_cons | apply List.Sublist.cons)))) ?_)
        refine wpS_fin ?_
        ((with_reducible apply wpSched_loud); exact rfl; go_wp2_with ((go_at_call 51; go_must ((with_reducible refine (AC.out _ _ HO (by repeat (first | exact List.mem_cons_self | apply List.mem_cons_of_mem)) (by repeat (first | exact List.mem_cons_self | apply List.mem_cons_of_mem)) (by repeat (first | exact List.mem_cons_self | apply List.mem_cons_of_mem)) (by repeat (first | exact List.mem_cons_self | apply List.mem_cons_of_mem)) (by intro e he; repeat (first | exact he | apply List.mem_cons_of_mem))).mono ?_); rintro e w ⟨rfl, hb⟩; replace HO := HO.call hb; clear hb))))
        refine thenQ_keep (HO.held (by with_reducible (repeat (first | exact List.nil_sublist _ | apply List.Sublist.cons_cons | apply List.Sublist.cons)))) ?_
        repeat (first | ((with_reducible apply wpSched_loadAll); exact rfl; exact rfl; exact rfl; (repeat (with_reducible (first | exact At.head _ | apply At.tail))); infer_instance; exact rfl; exact rfl; (simp only [Act.put, List.setIfInBounds_toArray, List.set_cons_succ, List.set_cons_zero])) | ((with_reducible apply wpSched_loadOne); exact rfl; exact rfl; exact rfl; (repeat (with_reducible (first | exact At.head _ | apply At.tail))); exact rfl; infer_instance; exact rfl; (simp only [Act.put, List.setIfInBounds_toArray, List.set_cons_succ, List.set_cons_zero])) | ((with_reducible apply wpSched_loadPart); exact rfl; exact rfl; (first | (simp [Act.eval]; rfl) | exact rfl); (repeat (with_reducible (first | exact At.head _ | apply At.tail))); infer_instance; exact (Nat.le_of_ble_eq_true rfl); (simp only [List.drop_succ_cons, List.drop_zero, List.take_succ_cons, List.take_zero]; rfl); exact rfl; (simp only [Act.put, List.setIfInBounds_toArray, List.set_cons_succ, List.set_cons_zero])) | ((with_reducible apply wpSched_pure); exact rfl; exact rfl; (intro w'; go_simp; try with_reducible rfl); (simp only [Act.put, List.setIfInBounds_toArray, List.set_cons_succ, List.set_cons_zero])))
        ((with_reducible apply wpSched_loud); exact rfl; ((with_reducible apply wpList_storeAll HO); exact rfl; exact rfl; exact rfl; (repeat (with_reducible (first | exact At.head _ | apply At.tail))); infer_instance; exact rfl; exact rfl; exact rfl; exact rfl; clear HO; intro w HO; (simp only [Act.put])))
        refine wpList_nil (thenQ_keep (HO.held (by with_reducible (repeat (first | exact List.nil_sublist _ | apply List.Sublist.cons_cons | apply List.Sublist.cons)))) ?_)
        repeat ((with_reducible apply wpSched_pure); exact rfl; exact rfl; (intro w'; go_simp; try with_reducible rfl); (simp only [Act.put, List.setIfInBounds_toArray, List.set_cons_succ, List.set_cons_zero]))
        refine wpSched_end ?_
        go_wp2_with fail
        go_meet
        exact ⟨b5, rfl, rfl, HO⟩

  clear HO
  obtain ⟨b5, rfl, rfl, HO⟩ := hcut
  have hex : (ex != 0) = true := by simpa using hacc
  go_wp2_with (first | go_big_skip | (first | go_big_skip | ((with_reducible apply wpList_loadAll HO); exact rfl; exact rfl; (repeat (with_reducible (first | exact At.head _ | apply At.tail))); infer_instance; exact rfl; exact rfl; (simp only [Act.put, List.setIfInBounds_toArray, List.set_cons_succ, List.set_cons_zero])) | ((with_reducible apply wpList_loadOne HO); exact rfl; exact rfl; (repeat (with_reducible (first | exact At.head _ | apply At.tail))); exact rfl; infer_instance; exact rfl; (simp only [Act.put, List.setIfInBounds_toArray, List.set_cons_succ, List.set_cons_zero]))))
  go_ret
  exact ⟨rfl, HO.tail.tail⟩
end Go.Proofs.YtibabfedpdoofaaDoor
namespace Go.Proofs.YtibabfedpdoofaaDoor
open Go.RowKit Go.Own Go.Maps

theorem str_size (l : List UInt8) : (⟨l.toArray⟩ : ByteArray).size = l.length := rfl
theorem inAcc_form {w : World} {i : InA} {A : InS} {p q : Int} {rs : List RowS} {p' : Option Addr} {c' : Nat} (m : Value) (hp : p = 0 ∨ p = 1 ∨ p = 2) (h0 : IsRows w i.v0 A.r0) (h1 : IsRows w i.v1 A.r1) (h2 : IsRows w i.v2 A.r2) :
    ∃ (t0 t1 t2 : Option Addr) (d0 d1 d2 : Nat), inAcc i p (.slice p' rs.length c') m = ⟨.slice t0 (A.put p q rs).r0.length d0, .slice t1 (A.put p q rs).r1.length d1, .slice t2 (A.put p q rs).r2.length d2, m⟩ := by
  obtain ⟨s0, k0, e0, -⟩ := h0.slice
  obtain ⟨s1, k1, e1, -⟩ := h1.slice
  obtain ⟨s2, k2, e2, -⟩ := h2.slice
  unfold inAcc
  rw [e0, e1, e2]
  rcases hp with rfl | rfl | rfl
  · exact ⟨p', s1, s2, c', k1, k2, rfl⟩
  · exact ⟨s0, p', s2, k0, c', k2, rfl⟩
  · exact ⟨s0, s1, p', k0, k1, c', rfl⟩

set_option maxHeartbeats 64000000 in
set_option maxRecDepth 100000 in
theorem coStmt_yes {W w : World} {M : List Ent} {a : CoA} {S : CoS} {i : InA} {A : InS} {v : Value} (p q : Int) (rs : List RowS) (HO : Own W w (coPs a S i A ++ (inPs i A ++ M))) (hrs : RowsIn W M v rs) (hA : InOk A) (hok : CoOk S) (hlen : S.P.length ≤ 99000) (hL : LaidE W) (hacc : accE A p q rs = 0) :
    Calls Tryd.prog 32 #[.pointer (some ⟨a.c, 0, none⟩), .agg #[.int .i64 p, .int .i64 q, v]] w fun e w' => e = .returned (.int .i64 0) ∧ ∃ u' i', Own W w' (coPs { a with u := u' } { S with P := stmtP S.P (byI A (A.put p q rs)) q 60 } i' (A.put p q rs) ++ (inPs i' (A.put p q rs) ++ M)) := by
  obtain ⟨ac, av, ak, au, apm, abm⟩ := a
  have hst := okStmt_ok (accE_ok hacc).1
  have hp3 : p = 0 ∨ p = 1 ∨ p = 2 := by omega
  have hB := put_ok hA (accE_ok hacc).1
  have hsl := (hrs _ _ HO (fun e he => List.mem_append_right _ (List.mem_append_right _ he))).slice
  have AC := Lib.hid (fun (w : World) (L : List Ent) (h : Own W w L) (h0 : isl 5 i.v0 (A.r0.map rowC) ∈ L) (h1 : isl 5 i.v1 (A.r1.map rowC) ∈ L) (h2 : isl 5 i.v2 (A.r2.map rowC) ∈ L) (hm : mapM i.m (allF A) ∈ L) (hM : ∀ e ∈ M, e ∈ L) => show Calls Tryd.prog 51 #[.agg #[.int .i64 (A).p0, .int .i64 (A).q0, i.v0, .int .i64 (A).p1, .int .i64 (A).q1, i.v1, .int .i64 (A).p2, .int .i64 (A).q2, i.v2, i.m], .agg #[.int .i64 p, .int .i64 q, v]] w fun e w' =>
      ∃ (b n : Nat) (p' : Option Addr) (c' : Nat) (t0 t1 t2 : Option Addr) (d0 d1 d2 : Nat), Own w w' [mapE Tryd.prog 35 b n (allF (A.put p q rs)), row 73 5 (.slice p' rs.length c') (rs.map rowC)] ∧
        inAcc i p (.slice p' rs.length c') (.map (some b)) = ⟨.slice t0 (A.put p q rs).r0.length d0, .slice t1 (A.put p q rs).r1.length d1, .slice t2 (A.put p q rs).r2.length d2, .map (some b)⟩ ∧
        e = .returned (.tuple #[.agg #[.int .i64 ((A.put p q rs)).p0, .int .i64 ((A.put p q rs)).q0, .slice t0 (A.put p q rs).r0.length d0, .int .i64 ((A.put p q rs)).p1, .int .i64 ((A.put p q rs)).q1, .slice t1 (A.put p q rs).r1.length d1, .int .i64 ((A.put p q rs)).p2, .int .i64 ((A.put p q rs)).q2, .slice t2 (A.put p q rs).r2.length d2, .map (some b)], .int .i64 0]) from by
    refine (accept_any A p q rs (isRows_of_isL (h.has _ h0)) (isRows_of_isL (h.has _ h1)) (isRows_of_isL (h.has _ h2)) (hrs w L h hM) hA (h.has _ hm).form (hL.p.below h.grown hL.p.1)).mono ?_
    intro e w' he
    unfold AccPost at he
    rw [if_pos hacc] at he
    obtain ⟨b, n, u, hO, ⟨p', c', rfl⟩, rfl⟩ := he
    obtain ⟨t0, t1, t2, d0, d1, d2, hf⟩ := inAcc_form (p := p) (q := q) (rs := rs) (p' := p') (c' := c') (.map (some b)) hp3 (isRows_of_isL (h.has _ h0)) (isRows_of_isL (h.has _ h1)) (isRows_of_isL (h.has _ h2))
    refine ⟨b, n, p', c', t0, t1, t2, d0, d1, d2, hO, hf, ?_⟩
    unfold inAcc at hf
    simp only [InA.mk.injEq, and_true] at hf
    rw [← hf.1, ← hf.2.1, ← hf.2.2])
  have HKA := Lib.hid (fun (w : World) (b n : Nat) (u : Value) (h : ∀ e ∈ accK i A b n (allF (A.put p q rs)) u rs, e.F w) => accK_at hp3 h)
  have HKE := Lib.hid (fun (w : World) (b n : Nat) (u : Value) (x y z : Ent) (h : Own W w (x :: y :: z :: (accK i A b n (allF (A.put p q rs)) u rs ++ M))) => accK_end hp3 h)
  have BY := fun o => show byI A (A.put p q rs) o = netI (A.put p q rs) o - netI A o from rfl
  have I1 := Lib.hid (fun (w : World) (hb : Below W.heap.size W w) => itoaK_any q (by omega) (by omega) (hL.below hb))
  have hI2 := fun (o : Int) (h0 : 0 ≤ o) (h1 : o ≤ 1000) (w : World) (hb : Below W.heap.size W w) => itoaK_any o (by omega) (by omega) (hL.below hb)
  have hq0 : 0 ≤ q := by omega
  have hq1 : q ≤ 1073741824 := by omega
  obtain ⟨s0, c0, rfl, -⟩ := hsl
  generalize hAB : A.put p q rs = B at *
  unfold coPs coC inPs at HO
  simp only [List.cons_append, List.nil_append] at HO
  go_enter Tryd.func32, Tryd.ntmps32
  go_upto_region 1 with (first | go_big_skip | (first | go_big_skip | ((with_reducible apply wpList_loadAll HO); exact rfl; exact rfl; (repeat (with_reducible (first | exact At.head _ | apply At.tail))); infer_instance; exact rfl; exact rfl; (simp only [Act.put, List.setIfInBounds_toArray, List.set_cons_succ, List.set_cons_zero])) | ((with_reducible apply wpList_loadOne HO); exact rfl; exact rfl; (repeat (with_reducible (first | exact At.head _ | apply At.tail))); exact rfl; infer_instance; exact rfl; (simp only [Act.put, List.setIfInBounds_toArray, List.set_cons_succ, List.set_cons_zero]))) | ((with_reducible apply wpList_storeAll HO); exact rfl; exact rfl; exact rfl; (repeat (with_reducible (first | exact At.head _ | apply At.tail))); infer_instance; exact rfl; exact rfl; exact rfl; exact rfl; clear HO; intro w HO; (simp only [Act.put])) | (first | ((with_reducible apply wpList_boxAgg _ HO rfl); exact rfl; exact rfl; exact rfl; clear HO; intro b1 w HO; (simp only [Act.put, List.setIfInBounds_toArray, List.set_cons_succ, List.set_cons_zero])) | ((with_reducible apply wpList_allocAgg _ HO rfl); exact rfl; infer_instance; exact rfl; clear HO; intro b1 w HO; (simp only [Act.put, List.setIfInBounds_toArray, List.set_cons_succ, List.set_cons_zero]))))
  go_cut [5, 6] (fun x e wx => ∃ (b5 b n : Nat) (p' : Option Addr) (c' : Nat) (t0 t1 t2 : Option Addr) (d0 d1 d2 : Nat) (N : List Ent), inAcc i p (.slice p' rs.length c') (.map (some b)) = ⟨.slice t0 B.r0.length d0, .slice t1 B.r1.length d1, .slice t2 B.r2.length d2, .map (some b)⟩ ∧ N = accK i A b n (allF B) (.slice p' rs.length c') rs ++ M ∧ x = .pointer (some ⟨b5, 0, none⟩) ∧ e = .int .i64 0 ∧ Own W wx (box b5 (.cells #[.int .i64 B.p0, .int .i64 B.q0, (.slice t0 B.r0.length d0), .int .i64 B.p1, .int .i64 B.q1, (.slice t1 B.r1.length d1), .int .i64 B.p2, .int .i64 B.q2, (.slice t2 B.r2.length d2), (.map (some b))] 80) :: box b1 (.cells #[.int .i64 p, .int .i64 q, .slice s0 rs.length c0] 38) ::
    box ac (.cells #[av, .pointer (some ⟨ak, 0, none⟩), .int .i64 A.p0, .int .i64 A.q0, i.v0, .int .i64 A.p1, .int .i64 A.q1, i.v1, .int .i64 A.p2, .int .i64 A.q2, i.v2, i.m] 82) :: row 52 12 av (S.L.map sagaL) :: bkE ak au apm abm S.P :: N))
  case first =>
    refine region_tree [box b1 (.cells #[.int .i64 p, .int .i64 q, .slice s0 rs.length c0] 38), box ac (.cells #[av, .pointer (some ⟨ak, 0, none⟩), .int .i64 A.p0, .int .i64 A.q0, i.v0, .int .i64 A.p1, .int .i64 A.q1, i.v1, .int .i64 A.p2, .int .i64 A.q2, i.v2, i.m] 82)] [(0, true), (1, true), (2, true), (3, true), (4, true), (6, true), (7, true), (8, true), (11, true)] (.fork [(0, true), (1, true), (2, true), (3, true), (4, true)] 5 9 (.fin [(6, true), (7, true), (8, true), (9, false), (10, false), (11, true)]) (.fin [(5, false), (6, true), (7, true), (8, true), (10, false), (11, true)])) HO (by with_reducible (repeat (first | exact List.nil_sublist _ | apply List.Sublist.cons_cons | apply List.Sublist.cons))) (by kernel_rfl) (by kernel_rfl) ?_
    clear HO
    intro w HO
    refine wpS_fork ?_
    repeat (first | ((with_reducible apply wpSched_loadAll); exact rfl; exact rfl; exact rfl; (repeat (with_reducible (first | exact At.head _ | apply At.tail))); infer_instance; exact rfl; exact rfl; (simp only [Act.put, List.setIfInBounds_toArray, List.set_cons_succ, List.set_cons_zero])) | ((with_reducible apply wpSched_loadOne); exact rfl; exact rfl; exact rfl; (repeat (with_reducible (first | exact At.head _ | apply At.tail))); exact rfl; infer_instance; exact rfl; (simp only [Act.put, List.setIfInBounds_toArray, List.set_cons_succ, List.set_cons_zero])) | ((with_reducible apply wpSched_loadPart); exact rfl; exact rfl; (first | (simp [Act.eval]; rfl) | exact rfl); (repeat (with_reducible (first | exact At.head _ | apply At.tail))); infer_instance; exact (Nat.le_of_ble_eq_true rfl); (simp only [List.drop_succ_cons, List.drop_zero, List.take_succ_cons, List.take_zero]; rfl); exact rfl; (simp only [Act.put, List.setIfInBounds_toArray, List.set_cons_succ, List.set_cons_zero])) | ((with_reducible apply wpSched_pure); exact rfl; exact rfl; (intro w'; go_simp; try with_reducible rfl); (simp only [Act.put, List.setIfInBounds_toArray, List.set_cons_succ, List.set_cons_zero])))
    refine fork_end rfl rfl ?_ ?_
    · go_wp2_with ((go_at_call 51; go_must ((with_reducible refine (AC.out _ _ HO (by repeat (first | exact List.mem_cons_self | apply List.mem_cons_of_mem)) (by repeat (first | exact List.mem_cons_self | apply List.mem_cons_of_mem)) (by repeat (first | exact List.mem_cons_self | apply List.mem_cons_of_mem)) (by repeat (first | exact List.mem_cons_self | apply List.mem_cons_of_mem)) (by intro e he; repeat (first | exact he | apply List.mem_cons_of_mem))).mono ?_); rintro e w ⟨b, n, p', c', t0, t1, t2, d0, d1, d2, HO1, hy, rfl⟩; replace HO := HO.lift HO1; clear HO1; simp only [List.cons_append, List.nil_append] at HO)))
      refine thenQ_keep (HO.held (by with_reducible (repeat (first | exact List.nil_sublist _ | apply List.Sublist.cons_cons | apply List.Sublist.cons)))) ?_
      refine wpS_fin ?_
      repeat (first | ((with_reducible apply wpSched_loadAll); exact rfl; exact rfl; exact rfl; (repeat (with_reducible (first | exact At.head _ | apply At.tail))); infer_instance; exact rfl; exact rfl; (simp only [Act.put, List.setIfInBounds_toArray, List.set_cons_succ, List.set_cons_zero])) | ((with_reducible apply wpSched_loadOne); exact rfl; exact rfl; exact rfl; (repeat (with_reducible (first | exact At.head _ | apply At.tail))); exact rfl; infer_instance; exact rfl; (simp only [Act.put, List.setIfInBounds_toArray, List.set_cons_succ, List.set_cons_zero])) | ((with_reducible apply wpSched_loadPart); exact rfl; exact rfl; (first | (simp [Act.eval]; rfl) | exact rfl); (repeat (with_reducible (first | exact At.head _ | apply At.tail))); infer_instance; exact (Nat.le_of_ble_eq_true rfl); (simp only [List.drop_succ_cons, List.drop_zero, List.take_succ_cons, List.take_zero]; rfl); exact rfl; (simp only [Act.put, List.setIfInBounds_toArray, List.set_cons_succ, List.set_cons_zero])) | ((with_reducible apply wpSched_pure); exact rfl; exact rfl; (intro w'; go_simp; try with_reducible rfl); (simp only [Act.put, List.setIfInBounds_toArray, List.set_cons_succ, List.set_cons_zero])))
      ((with_reducible apply wpSched_loud); exact rfl; (first | ((with_reducible apply wpList_boxAgg _ HO rfl); exact rfl; exact rfl; exact rfl; clear HO; intro b5 w HO; (simp only [Act.put, List.setIfInBounds_toArray, List.set_cons_succ, List.set_cons_zero])) | ((with_reducible apply wpList_allocAgg _ HO rfl); exact rfl; infer_instance; exact rfl; clear HO; intro b5 w HO; (simp only [Act.put, List.setIfInBounds_toArray, List.set_cons_succ, List.set_cons_zero])) | ((with_reducible apply wpList_boxOne _ HO rfl); exact rfl; (first | (simp [Act.eval]; rfl) | exact rfl); exact rfl; exact rfl; clear HO; intro b5 w HO; (simp only [Act.put, List.setIfInBounds_toArray, List.set_cons_succ, List.set_cons_zero])) | ((with_reducible apply wpList_alloc _ HO rfl); exact rfl; infer_instance; exact rfl; exact rfl; clear HO; intro b5 w HO; (simp only [Act.put, List.setIfInBounds_toArray, List.set_cons_succ, List.set_cons_zero]))))
      refine wpList_nil (thenQ_keep (HO.held (by with_reducible (repeat (first | exact List.nil_sublist _ | apply List.Sublist.cons_cons | apply List.Sublist.cons)))) ?_)
      ((with_reducible apply wpSched_loud); exact rfl; ((with_reducible apply wpList_storeAll HO); exact rfl; exact rfl; exact rfl; (repeat (with_reducible (first | exact At.head _ | apply At.tail))); infer_instance; exact rfl; exact rfl; exact rfl; exact rfl; clear HO; intro w HO; (simp only [Act.put])))
      refine wpList_nil (thenQ_keep (HO.held (by with_reducible (repeat (first | exact List.nil_sublist _ | apply List.Sublist.cons_cons | apply List.Sublist.cons)))) ?_)
      repeat ((with_reducible apply wpSched_pure); exact rfl; exact rfl; (intro w'; go_simp; try with_reducible rfl); (simp only [Act.put, List.setIfInBounds_toArray, List.set_cons_succ, List.set_cons_zero]))
      refine wpSched_end ?_
      go_wp2_with fail
      go_meet
      exact ⟨b5, b, n, p', c', t0, t1, t2, d0, d1, d2, _, hy, rfl, rfl, rfl, HO.perm (((List.perm_append_comm (l₁ := [_, _]) (l₂ := [_, _, _, _])).append_right _).cons _)⟩
    · (first | ((with_reducible apply wpList_boxAgg _ HO rfl); exact rfl; exact rfl; exact rfl; clear HO; intro b5 w HO; (simp only [Act.put, List.setIfInBounds_toArray, List.set_cons_succ, List.set_cons_zero])) | ((with_reducible apply wpList_allocAgg _ HO rfl); exact rfl; infer_instance; exact rfl; clear HO; intro b5 w HO; (simp only [Act.put, List.setIfInBounds_toArray, List.set_cons_succ, List.set_cons_zero])) | ((with_reducible apply wpList_boxOne _ HO rfl); exact rfl; (first | (simp [Act.eval]; rfl) | exact rfl); exact rfl; exact rfl; clear HO; intro b5 w HO; (simp only [Act.put, List.setIfInBounds_toArray, List.set_cons_succ, List.set_cons_zero])) | ((with_reducible apply wpList_alloc _ HO rfl); exact rfl; infer_instance; exact rfl; exact rfl; clear HO; intro b5 w HO; (simp only [Act.put, List.setIfInBounds_toArray, List.set_cons_succ, List.set_cons_zero])))
      refine wpList_nil (thenQ_keep (HO.held (by with_reducible (repeat (first | exact List.nil_sublist _ | apply List.Sublist.cons_cons | apply List.Sublist.cons)))) ?_)
      refine wpS_fin ?_
      ((with_reducible apply wpSched_loud); exact rfl; go_wp2_with ((go_at_call 51; go_must ((with_reducible refine (AC.out _ _ HO (by repeat (first | exact List.mem_cons_self | apply List.mem_cons_of_mem)) (by repeat (first | exact List.mem_cons_self | apply List.mem_cons_of_mem)) (by repeat (first | exact List.mem_cons_self | apply List.mem_cons_of_mem)) (by repeat (first | exact List.mem_cons_self | apply List.mem_cons_of_mem)) (by intro e he; repeat (first | exact he | apply List.mem_cons_of_mem))).mono ?_); rintro e w ⟨b, n, p', c', t0, t1, t2, d0, d1, d2, HO1, hy, rfl⟩; replace HO := HO.lift HO1; clear HO1; simp only [List.cons_append, List.nil_append] at HO))))
      refine thenQ_keep (HO.held (by with_reducible (repeat (first | exact List.nil_sublist _ | apply List.Sublist.cons_cons | apply List.Sublist.cons)))) ?_
      repeat (first | ((with_reducible apply wpSched_loadAll); exact rfl; exact rfl; exact rfl; (repeat (with_reducible (first | exact At.head _ | apply At.tail))); infer_instance; exact rfl; exact rfl; (simp only [Act.put, List.setIfInBounds_toArray, List.set_cons_succ, List.set_cons_zero])) | ((with_reducible apply wpSched_loadOne); exact rfl; exact rfl; exact rfl; (repeat (with_reducible (first | exact At.head _ | apply At.tail))); exact rfl; infer_instance; exact rfl; (simp only [Act.put, List.setIfInBounds_toArray, List.set_cons_succ, List.set_cons_zero])) | ((with_reducible apply wpSched_loadPart); exact rfl; exact rfl; (first | (simp [Act.eval]; rfl) | exact rfl); (repeat (with_reducible (first | exact At.head _ | apply At.tail))); infer_instance; exact (Nat.le_of_ble_eq_true rfl); (simp only [List.drop_succ_cons, List.drop_zero, List.take_succ_cons, List.take_zero]; rfl); exact rfl; (simp only [Act.put, List.setIfInBounds_toArray, List.set_cons_succ, List.set_cons_zero])) | ((with_reducible apply wpSched_pure); exact rfl; exact rfl; (intro w'; go_simp; try with_reducible rfl); (simp only [Act.put, List.setIfInBounds_toArray, List.set_cons_succ, List.set_cons_zero])))
      ((with_reducible apply wpSched_loud); exact rfl; ((with_reducible apply wpList_storeAll HO); exact rfl; exact rfl; exact rfl; (repeat (with_reducible (first | exact At.head _ | apply At.tail))); infer_instance; exact rfl; exact rfl; exact rfl; exact rfl; clear HO; intro w HO; (simp only [Act.put])))
      refine wpList_nil (thenQ_keep (HO.held (by with_reducible (repeat (first | exact List.nil_sublist _ | apply List.Sublist.cons_cons | apply List.Sublist.cons)))) ?_)
      repeat ((with_reducible apply wpSched_pure); exact rfl; exact rfl; (intro w'; go_simp; try with_reducible rfl); (simp only [Act.put, List.setIfInBounds_toArray, List.set_cons_succ, List.set_cons_zero]))
      refine wpSched_end ?_
      go_wp2_with fail
      go_meet
      exact ⟨b5, b, n, p', c', t0, t1, t2, d0, d1, d2, _, hy, rfl, rfl, rfl, HO.perm ((List.perm_append_comm (l₁ := [_, _]) (l₂ := [_, _, _, _, _])).append_right _)⟩

  clear HO AC
  obtain ⟨b5, bm, n, p', c', t0, t1, t2, d0, d1, d2, N, hy, hN, rfl, rfl, HO⟩ := hcut
  have hin := fun w h => HKA.out w bm n (.slice p' rs.length c') h
  have hen := fun w x y z h => HKE.out w bm n (.slice p' rs.length c') x y z h
  simp only [hy] at hin hen
  have HB := fun (w : World) (L : List Ent) (h : Own W w L) (hm : ∀ e ∈ N, e ∈ L) => hin w (fun e he => h.has e (hm e (by rw [hN]; exact List.mem_append_left _ he)))
  have HE := Lib.hid (fun (w : World) (x y z : Ent) (h : Own W w (x :: y :: z :: N)) => hen w x y z (by rw [← hN]; exact h))
  have NA0 := Lib.hid (fun (o : Int) (w1 : (Lit.int .i64 o).wf = true) (w : World) (L : List Ent) (h : Own W w L) (hm : ∀ e ∈ N, e ∈ L) => intNet_any B o (HB w L h hm).x0 (HB w L h hm).x1 (HB w L h hm).x2 hB (HB w L h hm).xm (fun o d h2 h3 => allF_row hB h2 h3) w1)
  have NB0 := Lib.hid (fun (o : Int) (w1 : (Lit.int .i64 o).wf = true) (w : World) (L : List Ent) (h : Own W w L) (hm : ∀ e ∈ N, e ∈ L) => intNet_any A o (HB w L h hm).i0 (HB w L h hm).i1 (HB w L h hm).i2 hA (HB w L h hm).im (fun o d h2 h3 => allF_row hA h2 h3) w1)
  have bB := netI_bound hB
  have bA := netI_bound hA
  have hPK := fun k => stmtP_ok hok.bk (byI A B) q k
  clear hin hen HB hy hN HKA HKE hst hacc hL hrs hp3 hA hB hok
  have hex : ((0 : Int) != 0) = false := rfl
  go_wp2_with (first | go_big_skip | (first | go_big_skip | ((with_reducible apply wpList_loadAll HO); exact rfl; exact rfl; (repeat (with_reducible (first | exact At.head _ | apply At.tail))); infer_instance; exact rfl; exact rfl; (simp only [Act.put, List.setIfInBounds_toArray, List.set_cons_succ, List.set_cons_zero])) | ((with_reducible apply wpList_loadOne HO); exact rfl; exact rfl; (repeat (with_reducible (first | exact At.head _ | apply At.tail))); exact rfl; infer_instance; exact rfl; (simp only [Act.put, List.setIfInBounds_toArray, List.set_cons_succ, List.set_cons_zero]))))
  go_loopw [7] (fun o wr => ∃ k : Nat, k ≤ 60 ∧ o = .int .i64 ((k : Int) + 1) ∧ ∃ u, Own W wr (box b5 (.cells #[.int .i64 B.p0, .int .i64 B.q0, .slice t0 B.r0.length d0, .int .i64 B.p1, .int .i64 B.q1, .slice t1 B.r1.length d1, .int .i64 B.p2, .int .i64 B.q2, .slice t2 B.r2.length d2, .map (some bm)] 80) :: box b1 (.cells #[.int .i64 p, .int .i64 q, .slice s0 rs.length c0] 38) :: box ac (.cells #[av, .pointer (some ⟨ak, 0, none⟩), .int .i64 A.p0, .int .i64 A.q0, i.v0, .int .i64 A.p1, .int .i64 A.q1, i.v1, .int .i64 A.p2, .int .i64 A.q2, i.v2, i.m] 82) :: row 52 12 av (S.L.map sagaL) :: bkE ak u apm abm (stmtP S.P (byI A B) q k) :: N)) (fun o _ => 62 - (intOf o).toNat)
  case atStart => exact ⟨0, by omega, rfl, au, HO⟩
  case round =>
    clear HO
    obtain ⟨k, hk, rfl, u, HO⟩ := hrel
    by_cases hk60 : k < 60
    rotate_left
    · have hk' : k = 60 := by omega
      have hkI : ¬ ((k : Int) + 1 ≤ 60) := by omega
      rw [show stmtP S.P (byI A B) q k = stmtP S.P (byI A B) q 60 by rw [hk']] at HO
      generalize hPx : stmtP S.P (byI A B) q 60 = Px at *
      clear hPK hk' hk60 NA0 NB0 BY
      go_wp2_with (first | go_big_skip | (first | go_big_skip | ((with_reducible apply wpList_loadAll HO); exact rfl; exact rfl; (repeat (with_reducible (first | exact At.head _ | apply At.tail))); infer_instance; exact rfl; exact rfl; (simp only [Act.put, List.setIfInBounds_toArray, List.set_cons_succ, List.set_cons_zero])) | ((with_reducible apply wpList_loadOne HO); exact rfl; exact rfl; (repeat (with_reducible (first | exact At.head _ | apply At.tail))); exact rfl; infer_instance; exact rfl; (simp only [Act.put, List.setIfInBounds_toArray, List.set_cons_succ, List.set_cons_zero]))) | ((with_reducible apply wpList_storePart HO); exact rfl; exact rfl; (first | (simp [Act.eval]; rfl) | exact rfl); exact rfl; (repeat (with_reducible (first | exact At.head _ | apply At.tail))); infer_instance; exact rfl; exact (by simp); (simp only [putL, List.drop_succ_cons, List.drop_zero, List.take_succ_cons, List.take_zero, List.length_cons, List.length_nil, List.cons_append, List.nil_append, List.append_nil, Nat.reduceAdd]; rfl); exact rfl; exact rfl; clear HO; intro w HO; (simp only [Act.put])))
      go_ret
      subst hPx
      refine ⟨rfl, u, ⟨.slice t0 B.r0.length d0, .slice t1 B.r1.length d1, .slice t2 B.r2.length d2, .map (some bm)⟩, ?_⟩
      exact HE.out _ _ _ _ HO.tail.tail
    · have hkI : (k : Int) + 1 ≤ 60 := by omega
      have NA := Lib.hid (NA0.out ((k : Int) + 1) (wf_small (by omega) (by omega)))
      have NB := Lib.hid (NB0.out ((k : Int) + 1) (wf_small (by omega) (by omega)))
      have I2 := Lib.hid (hI2 ((k : Int) + 1) (by omega) (by omega))
      have z1 : (⟨(Lib.itoa q).toArray⟩ : ByteArray).size ≤ 21 := by rw [str_size]; exact Lib.itoa_length_le q (by omega) (by omega)
      have z2 : (⟨(Lib.itoa ((k : Int) + 1)).toArray⟩ : ByteArray).size ≤ 21 := by rw [str_size]; exact Lib.itoa_length_le ((k : Int) + 1) (by omega) (by omega)
      have HS := Lib.hid (show sidK q ((k : Int) + 1) = (⟨#[115]⟩ : ByteArray) ++ ⟨(Lib.itoa q).toArray⟩ ++ ⟨#[45]⟩ ++ ⟨(Lib.itoa ((k : Int) + 1)).toArray⟩ from rfl)
      have hsz := sidK_size hq0 hq1 (show (0 : Int) ≤ (k : Int) + 1 by omega) (by omega)
      have hnx := Lib.hid (show stmtP S.P (byI A B) q (k + 1) = if byI A B ((k : Int) + 1) = 0 then stmtP S.P (byI A B) q k else postL (stmtP S.P (byI A B) q k) (stPst q ((k : Int) + 1) (byI A B ((k : Int) + 1))) from rfl)
      have hpk := hPK k
      have bB1 := bB ((k : Int) + 1)
      have bA1 := bA ((k : Int) + 1)
      have BY1 := BY ((k : Int) + 1)
      have HSP := Lib.hid (fun x => show stPst q ((k : Int) + 1) x = if x < 0 then ⟨sidK q ((k : Int) + 1), (k : Int) + 1, 1, 2, -x⟩ else ⟨sidK q ((k : Int) + 1), (k : Int) + 1, 2, 1, x⟩ from rfl)
      rw [BY1] at hnx
      clear BY1 NA0 NB0 hI2 hPK BY bB bA HE
      generalize hPy : stmtP S.P (byI A B) q (k + 1) = Py at *
      generalize stmtP S.P (byI A B) q k = Px at *
      generalize netI B ((k : Int) + 1) = nb at *
      generalize netI A ((k : Int) + 1) = na at *
      generalize sidK q ((k : Int) + 1) = id9 at *
      generalize (⟨(Lib.itoa q).toArray⟩ : ByteArray) = x1 at *
      generalize (⟨(Lib.itoa ((k : Int) + 1)).toArray⟩ : ByteArray) = x2 at *
      have q1 : ((⟨#[115]⟩ : ByteArray) ++ x1).size = 1 + x1.size := by rw [ByteArray.size_append]; rfl
      have q2 : ((⟨#[115]⟩ : ByteArray) ++ x1 ++ ⟨#[45]⟩).size = 1 + x1.size + 1 := by rw [ByteArray.size_append, q1]; rfl
      have a1 : ¬ (9223372036854775807 < (⟨#[115]⟩ : ByteArray).size + x1.size) := by show ¬ (9223372036854775807 < 1 + x1.size); omega
      have a1' : ¬ (9223372036854775807 < 1 + x1.size) := by omega
      have a2 : ¬ (9223372036854775807 < ((⟨#[115]⟩ : ByteArray) ++ x1).size + (⟨#[45]⟩ : ByteArray).size) := by rw [q1]; show ¬ (9223372036854775807 < 1 + x1.size + 1); omega
      have a2' : ¬ (9223372036854775807 < 1 + x1.size + 1) := by omega
      have a3 : ¬ (9223372036854775807 < ((⟨#[115]⟩ : ByteArray) ++ x1 ++ ⟨#[45]⟩).size + x2.size) := by rw [q2]; omega
      have a3' : ¬ (9223372036854775807 < 1 + x1.size + 1 + x2.size) := by omega
      have hwr : IntKind.i64.wrap (nb - na) = nb - na := wrap_in (inI_iff.2 (by omega))
      have hwp : ∀ x, inI x = true → WfP ⟨id9, (k : Int) + 1, 2, 1, x⟩ := fun x hx => ⟨show inI ((k : Int) + 1) = true from inI_iff.2 (by omega), rfl, rfl, hx, show id9.size ≤ maxLen by unfold maxLen; omega⟩
      have hwq : ∀ x, inI x = true → WfP ⟨id9, (k : Int) + 1, 1, 2, x⟩ := fun x hx => ⟨show inI ((k : Int) + 1) = true from inI_iff.2 (by omega), rfl, rfl, hx, show id9.size ≤ maxLen by unfold maxLen; omega⟩
      go_upto_region 7 with (first | go_big_skip | (first | go_big_skip | ((with_reducible apply wpList_loadAll HO); exact rfl; exact rfl; (repeat (with_reducible (first | exact At.head _ | apply At.tail))); infer_instance; exact rfl; exact rfl; (simp only [Act.put, List.setIfInBounds_toArray, List.set_cons_succ, List.set_cons_zero])) | ((with_reducible apply wpList_loadOne HO); exact rfl; exact rfl; (repeat (with_reducible (first | exact At.head _ | apply At.tail))); exact rfl; infer_instance; exact rfl; (simp only [Act.put, List.setIfInBounds_toArray, List.set_cons_succ, List.set_cons_zero]))))
      go_cut [8] (fun x wx => ∃ b8, x = .pointer (some ⟨b8, 0, none⟩) ∧ Own W wx (box b8 (.cells #[.string id9, .int .i64 ((k : Int) + 1), .int .i64 2, .int .i64 1, .int .i64 (nb - na)] 111) :: box b5 (.cells #[.int .i64 B.p0, .int .i64 B.q0, .slice t0 B.r0.length d0, .int .i64 B.p1, .int .i64 B.q1, .slice t1 B.r1.length d1, .int .i64 B.p2, .int .i64 B.q2, .slice t2 B.r2.length d2, .map (some bm)] 80) :: box b1 (.cells #[.int .i64 p, .int .i64 q, .slice s0 rs.length c0] 38) :: box ac (.cells #[av, .pointer (some ⟨ak, 0, none⟩), .int .i64 A.p0, .int .i64 A.q0, i.v0, .int .i64 A.p1, .int .i64 A.q1, i.v1, .int .i64 A.p2, .int .i64 A.q2, i.v2, i.m] 82) :: row 52 12 av (S.L.map sagaL) :: bkE ak u apm abm Px :: N))
      case first =>
        refine region_tree [box b5 (.cells #[.int .i64 B.p0, .int .i64 B.q0, .slice t0 B.r0.length d0, .int .i64 B.p1, .int .i64 B.q1, .slice t1 B.r1.length d1, .int .i64 B.p2, .int .i64 B.q2, .slice t2 B.r2.length d2, .map (some bm)] 80), box b1 (.cells #[.int .i64 p, .int .i64 q, .slice s0 rs.length c0] 38), box ac (.cells #[av, .pointer (some ⟨ak, 0, none⟩), .int .i64 A.p0, .int .i64 A.q0, i.v0, .int .i64 A.p1, .int .i64 A.q1, i.v1, .int .i64 A.p2, .int .i64 A.q2, i.v2, i.m] 82)] [(0, true), (1, true), (3, true), (4, true), (5, true), (7, true), (8, true), (9, true), (10, true), (12, true), (13, true), (14, true), (15, true), (16, true), (18, true), (19, true)] (.fork [(0, true), (1, true), (5, true), (8, true), (9, true), (10, true), (12, true), (13, true), (14, true), (15, true), (16, true)] 2 20 (.fork [(3, true), (4, true)] 6 20 (.fork [(7, true)] 11 20 (.fork [] 17 20 (.fin [(18, true), (19, true), (20, false), (21, false)]) (.fin [(17, false), (18, true), (19, true), (21, false)])) (.fin [(11, false), (17, false), (18, true), (19, true), (21, false)])) (.fin [(6, false), (7, true), (11, false), (17, false), (18, true), (19, true), (21, false)])) (.fin [(2, false), (3, true), (4, true), (6, false), (7, true), (11, false), (17, false), (18, true), (19, true), (21, false)])) HO (by with_reducible (repeat (first | exact List.nil_sublist _ | apply List.Sublist.cons_cons | apply List.Sublist.cons))) (by kernel_rfl) (by kernel_rfl) ?_
        clear HO
        intro w HO
        refine wpS_fork ?_
        repeat (first | ((with_reducible apply wpSched_loadAll); exact rfl; exact rfl; exact rfl; (repeat (with_reducible (first | exact At.head _ | apply At.tail))); infer_instance; exact rfl; exact rfl; (simp only [Act.put, List.setIfInBounds_toArray, List.set_cons_succ, List.set_cons_zero])) | ((with_reducible apply wpSched_loadOne); exact rfl; exact rfl; exact rfl; (repeat (with_reducible (first | exact At.head _ | apply At.tail))); exact rfl; infer_instance; exact rfl; (simp only [Act.put, List.setIfInBounds_toArray, List.set_cons_succ, List.set_cons_zero])) | ((with_reducible apply wpSched_loadPart); exact rfl; exact rfl; (first | (simp [Act.eval]; rfl) | exact rfl); (repeat (with_reducible (first | exact At.head _ | apply At.tail))); infer_instance; exact (Nat.le_of_ble_eq_true rfl); (simp only [List.drop_succ_cons, List.drop_zero, List.take_succ_cons, List.take_zero]; rfl); exact rfl; (simp only [Act.put, List.setIfInBounds_toArray, List.set_cons_succ, List.set_cons_zero])) | ((with_reducible apply wpSched_pure); exact rfl; exact rfl; (intro w'; go_simp; try with_reducible rfl); (simp only [Act.put, List.setIfInBounds_toArray, List.set_cons_succ, List.set_cons_zero])))
        refine fork_end rfl rfl ?_ ?_
        · go_wp2_with ((go_at_call 52; go_must ((with_reducible refine (I1.out _ HO.grown).mono ?_); rintro e w ⟨rfl, hb⟩; replace HO := HO.call hb; clear hb)))
          refine thenQ_keep (HO.held (by with_reducible (repeat (first | exact List.nil_sublist _ | apply List.Sublist.cons_cons | apply List.Sublist.cons)))) ?_
          refine wpS_fork ?_
          repeat (first | ((with_reducible apply wpSched_loadAll); exact rfl; exact rfl; exact rfl; (repeat (with_reducible (first | exact At.head _ | apply At.tail))); infer_instance; exact rfl; exact rfl; (simp only [Act.put, List.setIfInBounds_toArray, List.set_cons_succ, List.set_cons_zero])) | ((with_reducible apply wpSched_loadOne); exact rfl; exact rfl; exact rfl; (repeat (with_reducible (first | exact At.head _ | apply At.tail))); exact rfl; infer_instance; exact rfl; (simp only [Act.put, List.setIfInBounds_toArray, List.set_cons_succ, List.set_cons_zero])) | ((with_reducible apply wpSched_loadPart); exact rfl; exact rfl; (first | (simp [Act.eval]; rfl) | exact rfl); (repeat (with_reducible (first | exact At.head _ | apply At.tail))); infer_instance; exact (Nat.le_of_ble_eq_true rfl); (simp only [List.drop_succ_cons, List.drop_zero, List.take_succ_cons, List.take_zero]; rfl); exact rfl; (simp only [Act.put, List.setIfInBounds_toArray, List.set_cons_succ, List.set_cons_zero])) | ((with_reducible apply wpSched_pure); exact rfl; exact rfl; (intro w'; go_simp; try with_reducible rfl); (simp only [Act.put, List.setIfInBounds_toArray, List.set_cons_succ, List.set_cons_zero])))
          refine fork_end rfl rfl ?_ ?_
          · go_wp2_with ((go_at_call 52; go_must ((with_reducible refine (I2.out _ HO.grown).mono ?_); rintro e w ⟨rfl, hb⟩; replace HO := HO.call hb; clear hb)))
            refine thenQ_keep (HO.held (by with_reducible (repeat (first | exact List.nil_sublist _ | apply List.Sublist.cons_cons | apply List.Sublist.cons)))) ?_
            refine wpS_fork ?_
            repeat (first | ((with_reducible apply wpSched_loadAll); exact rfl; exact rfl; exact rfl; (repeat (with_reducible (first | exact At.head _ | apply At.tail))); infer_instance; exact rfl; exact rfl; (simp only [Act.put, List.setIfInBounds_toArray, List.set_cons_succ, List.set_cons_zero])) | ((with_reducible apply wpSched_loadOne); exact rfl; exact rfl; exact rfl; (repeat (with_reducible (first | exact At.head _ | apply At.tail))); exact rfl; infer_instance; exact rfl; (simp only [Act.put, List.setIfInBounds_toArray, List.set_cons_succ, List.set_cons_zero])) | ((with_reducible apply wpSched_loadPart); exact rfl; exact rfl; (first | (simp [Act.eval]; rfl) | exact rfl); (repeat (with_reducible (first | exact At.head _ | apply At.tail))); infer_instance; exact (Nat.le_of_ble_eq_true rfl); (simp only [List.drop_succ_cons, List.drop_zero, List.take_succ_cons, List.take_zero]; rfl); exact rfl; (simp only [Act.put, List.setIfInBounds_toArray, List.set_cons_succ, List.set_cons_zero])) | ((with_reducible apply wpSched_pure); exact rfl; exact rfl; (intro w'; go_simp; try with_reducible rfl); (simp only [Act.put, List.setIfInBounds_toArray, List.set_cons_succ, List.set_cons_zero])))
            refine fork_end rfl rfl ?_ ?_
            · go_wp2_with ((go_at_call 53; go_must ((with_reducible refine (NA.out _ _ HO (by intro e he; repeat (first | exact he | apply List.mem_cons_of_mem))).mono ?_); rintro e w ⟨rfl, hb⟩; replace HO := HO.call hb; clear hb)))
              refine thenQ_keep (HO.held (by with_reducible (repeat (first | exact List.nil_sublist _ | apply List.Sublist.cons_cons | apply List.Sublist.cons)))) ?_
              refine wpS_fork ?_
              repeat (first | ((with_reducible apply wpSched_loadAll); exact rfl; exact rfl; exact rfl; (repeat (with_reducible (first | exact At.head _ | apply At.tail))); infer_instance; exact rfl; exact rfl; (simp only [Act.put, List.setIfInBounds_toArray, List.set_cons_succ, List.set_cons_zero])) | ((with_reducible apply wpSched_loadOne); exact rfl; exact rfl; exact rfl; (repeat (with_reducible (first | exact At.head _ | apply At.tail))); exact rfl; infer_instance; exact rfl; (simp only [Act.put, List.setIfInBounds_toArray, List.set_cons_succ, List.set_cons_zero])) | ((with_reducible apply wpSched_loadPart); exact rfl; exact rfl; (first | (simp [Act.eval]; rfl) | exact rfl); (repeat (with_reducible (first | exact At.head _ | apply At.tail))); infer_instance; exact (Nat.le_of_ble_eq_true rfl); (simp only [List.drop_succ_cons, List.drop_zero, List.take_succ_cons, List.take_zero]; rfl); exact rfl; (simp only [Act.put, List.setIfInBounds_toArray, List.set_cons_succ, List.set_cons_zero])) | ((with_reducible apply wpSched_pure); exact rfl; exact rfl; (intro w'; go_simp; try with_reducible rfl); (simp only [Act.put, List.setIfInBounds_toArray, List.set_cons_succ, List.set_cons_zero])))
              refine fork_end rfl rfl ?_ ?_
              · go_wp2_with ((go_at_call 53; go_must ((with_reducible refine (NB.out _ _ HO (by intro e he; repeat (first | exact he | apply List.mem_cons_of_mem))).mono ?_); rintro e w ⟨rfl, hb⟩; replace HO := HO.call hb; clear hb)))
                refine thenQ_keep (HO.held (by with_reducible (repeat (first | exact List.nil_sublist _ | apply List.Sublist.cons_cons | apply List.Sublist.cons)))) ?_
                refine wpS_fin ?_
                repeat (first | ((with_reducible apply wpSched_loadAll); exact rfl; exact rfl; exact rfl; (repeat (with_reducible (first | exact At.head _ | apply At.tail))); infer_instance; exact rfl; exact rfl; (simp only [Act.put, List.setIfInBounds_toArray, List.set_cons_succ, List.set_cons_zero])) | ((with_reducible apply wpSched_loadOne); exact rfl; exact rfl; exact rfl; (repeat (with_reducible (first | exact At.head _ | apply At.tail))); exact rfl; infer_instance; exact rfl; (simp only [Act.put, List.setIfInBounds_toArray, List.set_cons_succ, List.set_cons_zero])) | ((with_reducible apply wpSched_loadPart); exact rfl; exact rfl; (first | (simp [Act.eval]; rfl) | exact rfl); (repeat (with_reducible (first | exact At.head _ | apply At.tail))); infer_instance; exact (Nat.le_of_ble_eq_true rfl); (simp only [List.drop_succ_cons, List.drop_zero, List.take_succ_cons, List.take_zero]; rfl); exact rfl; (simp only [Act.put, List.setIfInBounds_toArray, List.set_cons_succ, List.set_cons_zero])) | ((with_reducible apply wpSched_pure); exact rfl; exact rfl; (intro w'; go_simp; try with_reducible rfl); (simp only [Act.put, List.setIfInBounds_toArray, List.set_cons_succ, List.set_cons_zero])))
                ((with_reducible apply wpSched_loud); exact rfl; (first | ((with_reducible apply wpList_boxAgg _ HO rfl); exact rfl; exact rfl; exact rfl; clear HO; intro b8 w HO; (simp only [Act.put, List.setIfInBounds_toArray, List.set_cons_succ, List.set_cons_zero])) | ((with_reducible apply wpList_allocAgg _ HO rfl); exact rfl; infer_instance; exact rfl; clear HO; intro b8 w HO; (simp only [Act.put, List.setIfInBounds_toArray, List.set_cons_succ, List.set_cons_zero])) | ((with_reducible apply wpList_boxOne _ HO rfl); exact rfl; (first | (simp [Act.eval]; rfl) | exact rfl); exact rfl; exact rfl; clear HO; intro b8 w HO; (simp only [Act.put, List.setIfInBounds_toArray, List.set_cons_succ, List.set_cons_zero])) | ((with_reducible apply wpList_alloc _ HO rfl); exact rfl; infer_instance; exact rfl; exact rfl; clear HO; intro b8 w HO; (simp only [Act.put, List.setIfInBounds_toArray, List.set_cons_succ, List.set_cons_zero]))))
                refine wpList_nil (thenQ_keep (HO.held (by with_reducible (repeat (first | exact List.nil_sublist _ | apply List.Sublist.cons_cons | apply List.Sublist.cons)))) ?_)
                ((with_reducible apply wpSched_loud); exact rfl; ((with_reducible apply wpList_storeAll HO); exact rfl; exact rfl; exact rfl; (repeat (with_reducible (first | exact At.head _ | apply At.tail))); infer_instance; exact rfl; exact rfl; exact rfl; exact rfl; clear HO; intro w HO; (simp only [Act.put])))
                refine wpList_nil (thenQ_keep (HO.held (by with_reducible (repeat (first | exact List.nil_sublist _ | apply List.Sublist.cons_cons | apply List.Sublist.cons)))) ?_)
                repeat ((with_reducible apply wpSched_pure); exact rfl; exact rfl; (intro w'; go_simp; try with_reducible rfl); (simp only [Act.put, List.setIfInBounds_toArray, List.set_cons_succ, List.set_cons_zero]))
                refine wpSched_end ?_
                go_wp2_with fail
                go_meet
                exact ⟨b8, rfl, by rw [HS.out]; exact HO⟩
              · (first | ((with_reducible apply wpList_boxAgg _ HO rfl); exact rfl; exact rfl; exact rfl; clear HO; intro b8 w HO; (simp only [Act.put, List.setIfInBounds_toArray, List.set_cons_succ, List.set_cons_zero])) | ((with_reducible apply wpList_allocAgg _ HO rfl); exact rfl; infer_instance; exact rfl; clear HO; intro b8 w HO; (simp only [Act.put, List.setIfInBounds_toArray, List.set_cons_succ, List.set_cons_zero])) | ((with_reducible apply wpList_boxOne _ HO rfl); exact rfl; (first | (simp [Act.eval]; rfl) | exact rfl); exact rfl; exact rfl; clear HO; intro b8 w HO; (simp only [Act.put, List.setIfInBounds_toArray, List.set_cons_succ, List.set_cons_zero])) | ((with_reducible apply wpList_alloc _ HO rfl); exact rfl; infer_instance; exact rfl; exact rfl; clear HO; intro b8 w HO; (simp only [Act.put, List.setIfInBounds_toArray, List.set_cons_succ, List.set_cons_zero])))
                refine wpList_nil (thenQ_keep (HO.held (by with_reducible (repeat (first | exact List.nil_sublist _ | apply List.Sublist.cons_cons | apply List.Sublist.cons)))) ?_)
                refine wpS_fin ?_
                ((with_reducible apply wpSched_loud); exact rfl; go_wp2_with ((go_at_call 53; go_must ((with_reducible refine (NB.out _ _ HO (by intro e he; repeat (first | exact he | apply List.mem_cons_of_mem))).mono ?_); rintro e w ⟨rfl, hb⟩; replace HO := HO.call hb; clear hb))))
                refine thenQ_keep (HO.held (by with_reducible (repeat (first | exact List.nil_sublist _ | apply List.Sublist.cons_cons | apply List.Sublist.cons)))) ?_
                repeat (first | ((with_reducible apply wpSched_loadAll); exact rfl; exact rfl; exact rfl; (repeat (with_reducible (first | exact At.head _ | apply At.tail))); infer_instance; exact rfl; exact rfl; (simp only [Act.put, List.setIfInBounds_toArray, List.set_cons_succ, List.set_cons_zero])) | ((with_reducible apply wpSched_loadOne); exact rfl; exact rfl; exact rfl; (repeat (with_reducible (first | exact At.head _ | apply At.tail))); exact rfl; infer_instance; exact rfl; (simp only [Act.put, List.setIfInBounds_toArray, List.set_cons_succ, List.set_cons_zero])) | ((with_reducible apply wpSched_loadPart); exact rfl; exact rfl; (first | (simp [Act.eval]; rfl) | exact rfl); (repeat (with_reducible (first | exact At.head _ | apply At.tail))); infer_instance; exact (Nat.le_of_ble_eq_true rfl); (simp only [List.drop_succ_cons, List.drop_zero, List.take_succ_cons, List.take_zero]; rfl); exact rfl; (simp only [Act.put, List.setIfInBounds_toArray, List.set_cons_succ, List.set_cons_zero])) | ((with_reducible apply wpSched_pure); exact rfl; exact rfl; (intro w'; go_simp; try with_reducible rfl); (simp only [Act.put, List.setIfInBounds_toArray, List.set_cons_succ, List.set_cons_zero])))
                ((with_reducible apply wpSched_loud); exact rfl; ((with_reducible apply wpList_storeAll HO); exact rfl; exact rfl; exact rfl; (repeat (with_reducible (first | exact At.head _ | apply At.tail))); infer_instance; exact rfl; exact rfl; exact rfl; exact rfl; clear HO; intro w HO; (simp only [Act.put])))
                refine wpList_nil (thenQ_keep (HO.held (by with_reducible (repeat (first | exact List.nil_sublist _ | apply List.Sublist.cons_cons | apply List.Sublist.cons)))) ?_)
                repeat ((with_reducible apply wpSched_pure); exact rfl; exact rfl; (intro w'; go_simp; try with_reducible rfl); (simp only [Act.put, List.setIfInBounds_toArray, List.set_cons_succ, List.set_cons_zero]))
                refine wpSched_end ?_
                go_wp2_with fail
                go_meet
                exact ⟨b8, rfl, by rw [HS.out]; exact HO⟩
            · (first | ((with_reducible apply wpList_boxAgg _ HO rfl); exact rfl; exact rfl; exact rfl; clear HO; intro b8 w HO; (simp only [Act.put, List.setIfInBounds_toArray, List.set_cons_succ, List.set_cons_zero])) | ((with_reducible apply wpList_allocAgg _ HO rfl); exact rfl; infer_instance; exact rfl; clear HO; intro b8 w HO; (simp only [Act.put, List.setIfInBounds_toArray, List.set_cons_succ, List.set_cons_zero])) | ((with_reducible apply wpList_boxOne _ HO rfl); exact rfl; (first | (simp [Act.eval]; rfl) | exact rfl); exact rfl; exact rfl; clear HO; intro b8 w HO; (simp only [Act.put, List.setIfInBounds_toArray, List.set_cons_succ, List.set_cons_zero])) | ((with_reducible apply wpList_alloc _ HO rfl); exact rfl; infer_instance; exact rfl; exact rfl; clear HO; intro b8 w HO; (simp only [Act.put, List.setIfInBounds_toArray, List.set_cons_succ, List.set_cons_zero])))
              refine wpList_nil (thenQ_keep (HO.held (by with_reducible (repeat (first | exact List.nil_sublist _ | apply List.Sublist.cons_cons | apply List.Sublist.cons)))) ?_)
              refine wpS_fin ?_
              ((with_reducible apply wpSched_loud); exact rfl; go_wp2_with ((go_at_call 53; go_must ((with_reducible refine (NA.out _ _ HO (by intro e he; repeat (first | exact he | apply List.mem_cons_of_mem))).mono ?_); rintro e w ⟨rfl, hb⟩; replace HO := HO.call hb; clear hb))))
              refine thenQ_keep (HO.held (by with_reducible (repeat (first | exact List.nil_sublist _ | apply List.Sublist.cons_cons | apply List.Sublist.cons)))) ?_
              repeat (first | ((with_reducible apply wpSched_loadAll); exact rfl; exact rfl; exact rfl; (repeat (with_reducible (first | exact At.head _ | apply At.tail))); infer_instance; exact rfl; exact rfl; (simp only [Act.put, List.setIfInBounds_toArray, List.set_cons_succ, List.set_cons_zero])) | ((with_reducible apply wpSched_loadOne); exact rfl; exact rfl; exact rfl; (repeat (with_reducible (first | exact At.head _ | apply At.tail))); exact rfl; infer_instance; exact rfl; (simp only [Act.put, List.setIfInBounds_toArray, List.set_cons_succ, List.set_cons_zero])) | ((with_reducible apply wpSched_loadPart); exact rfl; exact rfl; (first | (simp [Act.eval]; rfl) | exact rfl); (repeat (with_reducible (first | exact At.head _ | apply At.tail))); infer_instance; exact (Nat.le_of_ble_eq_true rfl); (simp only [List.drop_succ_cons, List.drop_zero, List.take_succ_cons, List.take_zero]; rfl); exact rfl; (simp only [Act.put, List.setIfInBounds_toArray, List.set_cons_succ, List.set_cons_zero])) | ((with_reducible apply wpSched_pure); exact rfl; exact rfl; (intro w'; go_simp; try with_reducible rfl); (simp only [Act.put, List.setIfInBounds_toArray, List.set_cons_succ, List.set_cons_zero])))
              ((with_reducible apply wpSched_loud); exact rfl; go_wp2_with ((go_at_call 53; go_must ((with_reducible refine (NB.out _ _ HO (by intro e he; repeat (first | exact he | apply List.mem_cons_of_mem))).mono ?_); rintro e w ⟨rfl, hb⟩; replace HO := HO.call hb; clear hb))))
              refine thenQ_keep (HO.held (by with_reducible (repeat (first | exact List.nil_sublist _ | apply List.Sublist.cons_cons | apply List.Sublist.cons)))) ?_
              repeat (first | ((with_reducible apply wpSched_loadAll); exact rfl; exact rfl; exact rfl; (repeat (with_reducible (first | exact At.head _ | apply At.tail))); infer_instance; exact rfl; exact rfl; (simp only [Act.put, List.setIfInBounds_toArray, List.set_cons_succ, List.set_cons_zero])) | ((with_reducible apply wpSched_loadOne); exact rfl; exact rfl; exact rfl; (repeat (with_reducible (first | exact At.head _ | apply At.tail))); exact rfl; infer_instance; exact rfl; (simp only [Act.put, List.setIfInBounds_toArray, List.set_cons_succ, List.set_cons_zero])) | ((with_reducible apply wpSched_loadPart); exact rfl; exact rfl; (first | (simp [Act.eval]; rfl) | exact rfl); (repeat (with_reducible (first | exact At.head _ | apply At.tail))); infer_instance; exact (Nat.le_of_ble_eq_true rfl); (simp only [List.drop_succ_cons, List.drop_zero, List.take_succ_cons, List.take_zero]; rfl); exact rfl; (simp only [Act.put, List.setIfInBounds_toArray, List.set_cons_succ, List.set_cons_zero])) | ((with_reducible apply wpSched_pure); exact rfl; exact rfl; (intro w'; go_simp; try with_reducible rfl); (simp only [Act.put, List.setIfInBounds_toArray, List.set_cons_succ, List.set_cons_zero])))
              ((with_reducible apply wpSched_loud); exact rfl; ((with_reducible apply wpList_storeAll HO); exact rfl; exact rfl; exact rfl; (repeat (with_reducible (first | exact At.head _ | apply At.tail))); infer_instance; exact rfl; exact rfl; exact rfl; exact rfl; clear HO; intro w HO; (simp only [Act.put])))
              refine wpList_nil (thenQ_keep (HO.held (by with_reducible (repeat (first | exact List.nil_sublist _ | apply List.Sublist.cons_cons | apply List.Sublist.cons)))) ?_)
              repeat ((with_reducible apply wpSched_pure); exact rfl; exact rfl; (intro w'; go_simp; try with_reducible rfl); (simp only [Act.put, List.setIfInBounds_toArray, List.set_cons_succ, List.set_cons_zero]))
              refine wpSched_end ?_
              go_wp2_with fail
              go_meet
              exact ⟨b8, rfl, by rw [HS.out]; exact HO⟩
          · (first | ((with_reducible apply wpList_boxAgg _ HO rfl); exact rfl; exact rfl; exact rfl; clear HO; intro b8 w HO; (simp only [Act.put, List.setIfInBounds_toArray, List.set_cons_succ, List.set_cons_zero])) | ((with_reducible apply wpList_allocAgg _ HO rfl); exact rfl; infer_instance; exact rfl; clear HO; intro b8 w HO; (simp only [Act.put, List.setIfInBounds_toArray, List.set_cons_succ, List.set_cons_zero])) | ((with_reducible apply wpList_boxOne _ HO rfl); exact rfl; (first | (simp [Act.eval]; rfl) | exact rfl); exact rfl; exact rfl; clear HO; intro b8 w HO; (simp only [Act.put, List.setIfInBounds_toArray, List.set_cons_succ, List.set_cons_zero])) | ((with_reducible apply wpList_alloc _ HO rfl); exact rfl; infer_instance; exact rfl; exact rfl; clear HO; intro b8 w HO; (simp only [Act.put, List.setIfInBounds_toArray, List.set_cons_succ, List.set_cons_zero])))
            refine wpList_nil (thenQ_keep (HO.held (by with_reducible (repeat (first | exact List.nil_sublist _ | apply List.Sublist.cons_cons | apply List.Sublist.cons)))) ?_)
            refine wpS_fin ?_
            ((with_reducible apply wpSched_loud); exact rfl; go_wp2_with ((go_at_call 52; go_must ((with_reducible refine (I2.out _ HO.grown).mono ?_); rintro e w ⟨rfl, hb⟩; replace HO := HO.call hb; clear hb))))
            refine thenQ_keep (HO.held (by with_reducible (repeat (first | exact List.nil_sublist _ | apply List.Sublist.cons_cons | apply List.Sublist.cons)))) ?_
            repeat (first | ((with_reducible apply wpSched_loadAll); exact rfl; exact rfl; exact rfl; (repeat (with_reducible (first | exact At.head _ | apply At.tail))); infer_instance; exact rfl; exact rfl; (simp only [Act.put, List.setIfInBounds_toArray, List.set_cons_succ, List.set_cons_zero])) | ((with_reducible apply wpSched_loadOne); exact rfl; exact rfl; exact rfl; (repeat (with_reducible (first | exact At.head _ | apply At.tail))); exact rfl; infer_instance; exact rfl; (simp only [Act.put, List.setIfInBounds_toArray, List.set_cons_succ, List.set_cons_zero])) | ((with_reducible apply wpSched_loadPart); exact rfl; exact rfl; (first | (simp [Act.eval]; rfl) | exact rfl); (repeat (with_reducible (first | exact At.head _ | apply At.tail))); infer_instance; exact (Nat.le_of_ble_eq_true rfl); (simp only [List.drop_succ_cons, List.drop_zero, List.take_succ_cons, List.take_zero]; rfl); exact rfl; (simp only [Act.put, List.setIfInBounds_toArray, List.set_cons_succ, List.set_cons_zero])) | ((with_reducible apply wpSched_pure); exact rfl; exact rfl; (intro w'; go_simp; try with_reducible rfl); (simp only [Act.put, List.setIfInBounds_toArray, List.set_cons_succ, List.set_cons_zero])))
            ((with_reducible apply wpSched_loud); exact rfl; go_wp2_with ((go_at_call 53; go_must ((with_reducible refine (NA.out _ _ HO (by intro e he; repeat (first | exact he | apply List.mem_cons_of_mem))).mono ?_); rintro e w ⟨rfl, hb⟩; replace HO := HO.call hb; clear hb))))
            refine thenQ_keep (HO.held (by with_reducible (repeat (first | exact List.nil_sublist _ | apply List.Sublist.cons_cons | apply List.Sublist.cons)))) ?_
            repeat (first | ((with_reducible apply wpSched_loadAll); exact rfl; exact rfl; exact rfl; (repeat (with_reducible (first | exact At.head _ | apply At.tail))); infer_instance; exact rfl; exact rfl; (simp only [Act.put, List.setIfInBounds_toArray, List.set_cons_succ, List.set_cons_zero])) | ((with_reducible apply wpSched_loadOne); exact rfl; exact rfl; exact rfl; (repeat (with_reducible (first | exact At.head _ | apply At.tail))); exact rfl; infer_instance; exact rfl; (simp only [Act.put, List.setIfInBounds_toArray, List.set_cons_succ, List.set_cons_zero])) | ((with_reducible apply wpSched_loadPart); exact rfl; exact rfl; (first | (simp [Act.eval]; rfl) | exact rfl); (repeat (with_reducible (first | exact At.head _ | apply At.tail))); infer_instance; exact (Nat.le_of_ble_eq_true rfl); (simp only [List.drop_succ_cons, List.drop_zero, List.take_succ_cons, List.take_zero]; rfl); exact rfl; (simp only [Act.put, List.setIfInBounds_toArray, List.set_cons_succ, List.set_cons_zero])) | ((with_reducible apply wpSched_pure); exact rfl; exact rfl; (intro w'; go_simp; try with_reducible rfl); (simp only [Act.put, List.setIfInBounds_toArray, List.set_cons_succ, List.set_cons_zero])))
            ((with_reducible apply wpSched_loud); exact rfl; go_wp2_with ((go_at_call 53; go_must ((with_reducible refine (NB.out _ _ HO (by intro e he; repeat (first | exact he | apply List.mem_cons_of_mem))).mono ?_); rintro e w ⟨rfl, hb⟩; replace HO := HO.call hb; clear hb))))
            refine thenQ_keep (HO.held (by with_reducible (repeat (first | exact List.nil_sublist _ | apply List.Sublist.cons_cons | apply List.Sublist.cons)))) ?_
            repeat (first | ((with_reducible apply wpSched_loadAll); exact rfl; exact rfl; exact rfl; (repeat (with_reducible (first | exact At.head _ | apply At.tail))); infer_instance; exact rfl; exact rfl; (simp only [Act.put, List.setIfInBounds_toArray, List.set_cons_succ, List.set_cons_zero])) | ((with_reducible apply wpSched_loadOne); exact rfl; exact rfl; exact rfl; (repeat (with_reducible (first | exact At.head _ | apply At.tail))); exact rfl; infer_instance; exact rfl; (simp only [Act.put, List.setIfInBounds_toArray, List.set_cons_succ, List.set_cons_zero])) | ((with_reducible apply wpSched_loadPart); exact rfl; exact rfl; (first | (simp [Act.eval]; rfl) | exact rfl); (repeat (with_reducible (first | exact At.head _ | apply At.tail))); infer_instance; exact (Nat.le_of_ble_eq_true rfl); (simp only [List.drop_succ_cons, List.drop_zero, List.take_succ_cons, List.take_zero]; rfl); exact rfl; (simp only [Act.put, List.setIfInBounds_toArray, List.set_cons_succ, List.set_cons_zero])) | ((with_reducible apply wpSched_pure); exact rfl; exact rfl; (intro w'; go_simp; try with_reducible rfl); (simp only [Act.put, List.setIfInBounds_toArray, List.set_cons_succ, List.set_cons_zero])))
            ((with_reducible apply wpSched_loud); exact rfl; ((with_reducible apply wpList_storeAll HO); exact rfl; exact rfl; exact rfl; (repeat (with_reducible (first | exact At.head _ | apply At.tail))); infer_instance; exact rfl; exact rfl; exact rfl; exact rfl; clear HO; intro w HO; (simp only [Act.put])))
            refine wpList_nil (thenQ_keep (HO.held (by with_reducible (repeat (first | exact List.nil_sublist _ | apply List.Sublist.cons_cons | apply List.Sublist.cons)))) ?_)
            repeat ((with_reducible apply wpSched_pure); exact rfl; exact rfl; (intro w'; go_simp; try with_reducible rfl); (simp only [Act.put, List.setIfInBounds_toArray, List.set_cons_succ, List.set_cons_zero]))
            refine wpSched_end ?_
            go_wp2_with fail
            go_meet
            exact ⟨b8, rfl, by rw [HS.out]; exact HO⟩
        · (first | ((with_reducible apply wpList_boxAgg _ HO rfl); exact rfl; exact rfl; exact rfl; clear HO; intro b8 w HO; (simp only [Act.put, List.setIfInBounds_toArray, List.set_cons_succ, List.set_cons_zero])) | ((with_reducible apply wpList_allocAgg _ HO rfl); exact rfl; infer_instance; exact rfl; clear HO; intro b8 w HO; (simp only [Act.put, List.setIfInBounds_toArray, List.set_cons_succ, List.set_cons_zero])) | ((with_reducible apply wpList_boxOne _ HO rfl); exact rfl; (first | (simp [Act.eval]; rfl) | exact rfl); exact rfl; exact rfl; clear HO; intro b8 w HO; (simp only [Act.put, List.setIfInBounds_toArray, List.set_cons_succ, List.set_cons_zero])) | ((with_reducible apply wpList_alloc _ HO rfl); exact rfl; infer_instance; exact rfl; exact rfl; clear HO; intro b8 w HO; (simp only [Act.put, List.setIfInBounds_toArray, List.set_cons_succ, List.set_cons_zero])))
          refine wpList_nil (thenQ_keep (HO.held (by with_reducible (repeat (first | exact List.nil_sublist _ | apply List.Sublist.cons_cons | apply List.Sublist.cons)))) ?_)
          refine wpS_fin ?_
          ((with_reducible apply wpSched_loud); exact rfl; go_wp2_with ((go_at_call 52; go_must ((with_reducible refine (I1.out _ HO.grown).mono ?_); rintro e w ⟨rfl, hb⟩; replace HO := HO.call hb; clear hb))))
          refine thenQ_keep (HO.held (by with_reducible (repeat (first | exact List.nil_sublist _ | apply List.Sublist.cons_cons | apply List.Sublist.cons)))) ?_
          repeat (first | ((with_reducible apply wpSched_loadAll); exact rfl; exact rfl; exact rfl; (repeat (with_reducible (first | exact At.head _ | apply At.tail))); infer_instance; exact rfl; exact rfl; (simp only [Act.put, List.setIfInBounds_toArray, List.set_cons_succ, List.set_cons_zero])) | ((with_reducible apply wpSched_loadOne); exact rfl; exact rfl; exact rfl; (repeat (with_reducible (first | exact At.head _ | apply At.tail))); exact rfl; infer_instance; exact rfl; (simp only [Act.put, List.setIfInBounds_toArray, List.set_cons_succ, List.set_cons_zero])) | ((with_reducible apply wpSched_loadPart); exact rfl; exact rfl; (first | (simp [Act.eval]; rfl) | exact rfl); (repeat (with_reducible (first | exact At.head _ | apply At.tail))); infer_instance; exact (Nat.le_of_ble_eq_true rfl); (simp only [List.drop_succ_cons, List.drop_zero, List.take_succ_cons, List.take_zero]; rfl); exact rfl; (simp only [Act.put, List.setIfInBounds_toArray, List.set_cons_succ, List.set_cons_zero])) | ((with_reducible apply wpSched_pure); exact rfl; exact rfl; (intro w'; go_simp; try with_reducible rfl); (simp only [Act.put, List.setIfInBounds_toArray, List.set_cons_succ, List.set_cons_zero])))
          ((with_reducible apply wpSched_loud); exact rfl; go_wp2_with ((go_at_call 52; go_must ((with_reducible refine (I2.out _ HO.grown).mono ?_); rintro e w ⟨rfl, hb⟩; replace HO := HO.call hb; clear hb))))
          refine thenQ_keep (HO.held (by with_reducible (repeat (first | exact List.nil_sublist _ | apply List.Sublist.cons_cons | apply List.Sublist.cons)))) ?_
          repeat (first | ((with_reducible apply wpSched_loadAll); exact rfl; exact rfl; exact rfl; (repeat (with_reducible (first | exact At.head _ | apply At.tail))); infer_instance; exact rfl; exact rfl; (simp only [Act.put, List.setIfInBounds_toArray, List.set_cons_succ, List.set_cons_zero])) | ((with_reducible apply wpSched_loadOne); exact rfl; exact rfl; exact rfl; (repeat (with_reducible (first | exact At.head _ | apply At.tail))); exact rfl; infer_instance; exact rfl; (simp only [Act.put, List.setIfInBounds_toArray, List.set_cons_succ, List.set_cons_zero])) | ((with_reducible apply wpSched_loadPart); exact rfl; exact rfl; (first | (simp [Act.eval]; rfl) | exact rfl); (repeat (with_reducible (first | exact At.head _ | apply At.tail))); infer_instance; exact (Nat.le_of_ble_eq_true rfl); (simp only [List.drop_succ_cons, List.drop_zero, List.take_succ_cons, List.take_zero]; rfl); exact rfl; (simp only [Act.put, List.setIfInBounds_toArray, List.set_cons_succ, List.set_cons_zero])) | ((with_reducible apply wpSched_pure); exact rfl; exact rfl; (intro w'; go_simp; try with_reducible rfl); (simp only [Act.put, List.setIfInBounds_toArray, List.set_cons_succ, List.set_cons_zero])))
          ((with_reducible apply wpSched_loud); exact rfl; go_wp2_with ((go_at_call 53; go_must ((with_reducible refine (NA.out _ _ HO (by intro e he; repeat (first | exact he | apply List.mem_cons_of_mem))).mono ?_); rintro e w ⟨rfl, hb⟩; replace HO := HO.call hb; clear hb))))
          refine thenQ_keep (HO.held (by with_reducible (repeat (first | exact List.nil_sublist _ | apply List.Sublist.cons_cons | apply List.Sublist.cons)))) ?_
          repeat (first | ((with_reducible apply wpSched_loadAll); exact rfl; exact rfl; exact rfl; (repeat (with_reducible (first | exact At.head _ | apply At.tail))); infer_instance; exact rfl; exact rfl; (simp only [Act.put, List.setIfInBounds_toArray, List.set_cons_succ, List.set_cons_zero])) | ((with_reducible apply wpSched_loadOne); exact rfl; exact rfl; exact rfl; (repeat (with_reducible (first | exact At.head _ | apply At.tail))); exact rfl; infer_instance; exact rfl; (simp only [Act.put, List.setIfInBounds_toArray, List.set_cons_succ, List.set_cons_zero])) | ((with_reducible apply wpSched_loadPart); exact rfl; exact rfl; (first | (simp [Act.eval]; rfl) | exact rfl); (repeat (with_reducible (first | exact At.head _ | apply At.tail))); infer_instance; exact (Nat.le_of_ble_eq_true rfl); (simp only [List.drop_succ_cons, List.drop_zero, List.take_succ_cons, List.take_zero]; rfl); exact rfl; (simp only [Act.put, List.setIfInBounds_toArray, List.set_cons_succ, List.set_cons_zero])) | ((with_reducible apply wpSched_pure); exact rfl; exact rfl; (intro w'; go_simp; try with_reducible rfl); (simp only [Act.put, List.setIfInBounds_toArray, List.set_cons_succ, List.set_cons_zero])))
          ((with_reducible apply wpSched_loud); exact rfl; go_wp2_with ((go_at_call 53; go_must ((with_reducible refine (NB.out _ _ HO (by intro e he; repeat (first | exact he | apply List.mem_cons_of_mem))).mono ?_); rintro e w ⟨rfl, hb⟩; replace HO := HO.call hb; clear hb))))
          refine thenQ_keep (HO.held (by with_reducible (repeat (first | exact List.nil_sublist _ | apply List.Sublist.cons_cons | apply List.Sublist.cons)))) ?_
          repeat (first | ((with_reducible apply wpSched_loadAll); exact rfl; exact rfl; exact rfl; (repeat (with_reducible (first | exact At.head _ | apply At.tail))); infer_instance; exact rfl; exact rfl; (simp only [Act.put, List.setIfInBounds_toArray, List.set_cons_succ, List.set_cons_zero])) | ((with_reducible apply wpSched_loadOne); exact rfl; exact rfl; exact rfl; (repeat (with_reducible (first | exact At.head _ | apply At.tail))); exact rfl; infer_instance; exact rfl; (simp only [Act.put, List.setIfInBounds_toArray, List.set_cons_succ, List.set_cons_zero])) | ((with_reducible apply wpSched_loadPart); exact rfl; exact rfl; (first | (simp [Act.eval]; rfl) | exact rfl); (repeat (with_reducible (first | exact At.head _ | apply At.tail))); infer_instance; exact (Nat.le_of_ble_eq_true rfl); (simp only [List.drop_succ_cons, List.drop_zero, List.take_succ_cons, List.take_zero]; rfl); exact rfl; (simp only [Act.put, List.setIfInBounds_toArray, List.set_cons_succ, List.set_cons_zero])) | ((with_reducible apply wpSched_pure); exact rfl; exact rfl; (intro w'; go_simp; try with_reducible rfl); (simp only [Act.put, List.setIfInBounds_toArray, List.set_cons_succ, List.set_cons_zero])))
          ((with_reducible apply wpSched_loud); exact rfl; ((with_reducible apply wpList_storeAll HO); exact rfl; exact rfl; exact rfl; (repeat (with_reducible (first | exact At.head _ | apply At.tail))); infer_instance; exact rfl; exact rfl; exact rfl; exact rfl; clear HO; intro w HO; (simp only [Act.put])))
          refine wpList_nil (thenQ_keep (HO.held (by with_reducible (repeat (first | exact List.nil_sublist _ | apply List.Sublist.cons_cons | apply List.Sublist.cons)))) ?_)
          repeat ((with_reducible apply wpSched_pure); exact rfl; exact rfl; (intro w'; go_simp; try with_reducible rfl); (simp only [Act.put, List.setIfInBounds_toArray, List.set_cons_succ, List.set_cons_zero]))
          refine wpSched_end ?_
          go_wp2_with fail
          go_meet
          exact ⟨b8, rfl, by rw [HS.out]; exact HO⟩

      clear HO NA NB I2 I1 HS a1 a2 a3 a1' a2' a3' q1 q2 z1 z2
      obtain ⟨b8, rfl, HO⟩ := hcut
      have PO1 := fun x hx (w : World) (L : List Ent) (L' : Value → List Ent) (h : Own W w L) hat => bkPost_any (W := W) (w := w) (L := L) (L' := L') (b := ak) (v := u) (pm := apm) (bm := abm) (l := Px) ⟨id9, (k : Int) + 1, 2, 1, x⟩ h hat hpk.1 (hwp x hx) (by omega)
      have PO2 := fun x hx (w : World) (L : List Ent) (L' : Value → List Ent) (h : Own W w L) hat => bkPost_any (W := W) (w := w) (L := L) (L' := L') (b := ak) (v := u) (pm := apm) (bm := abm) (l := Px) ⟨id9, (k : Int) + 1, 1, 2, x⟩ h hat hpk.1 (hwq x hx) (by omega)
      simp only [pstV, pstC] at PO1 PO2
      rw [HSP.out] at hnx
      clear HSP hwp hwq hpk
      by_cases c0 : nb - na = 0
      · rw [if_pos c0] at hnx
        obtain rfl := hnx.out
        have c1 : ¬ nb - na < 0 := by omega
        have c2 : ¬ 0 < nb - na := by omega
        clear PO1 PO2 hwr
        go_wp2_with (first | go_big_skip | (first | go_big_skip | ((with_reducible apply wpList_loadAll HO); exact rfl; exact rfl; (repeat (with_reducible (first | exact At.head _ | apply At.tail))); infer_instance; exact rfl; exact rfl; (simp only [Act.put, List.setIfInBounds_toArray, List.set_cons_succ, List.set_cons_zero])) | ((with_reducible apply wpList_loadOne HO); exact rfl; exact rfl; (repeat (with_reducible (first | exact At.head _ | apply At.tail))); exact rfl; infer_instance; exact rfl; (simp only [Act.put, List.setIfInBounds_toArray, List.set_cons_succ, List.set_cons_zero]))) | ((with_reducible apply wpList_storeOne HO); exact rfl; exact rfl; (first | (simp [Act.eval]; rfl) | exact rfl); exact rfl; (repeat (with_reducible (first | exact At.head _ | apply At.tail))); infer_instance; exact (by simp); (simp only [List.set_cons_succ, List.set_cons_zero]; rfl); exact rfl; clear HO; intro w HO; (simp only [Act.put])))
        replace HO := HO.tail
        go_roundw
        case rel => exact ⟨k + 1, hk60, by go_num, u, by rw [hPy]; exact HO⟩
        case measure => simp [intOf] <;> omega
      rw [if_neg c0] at hnx
      by_cases c1 : nb - na < 0
      · rw [if_pos c1] at hnx
        obtain rfl := hnx.out
        have PO := PO2 (-(nb - na)) (inI_iff.2 (by omega))
        have c2 : 0 < -(nb - na) := by omega
        clear PO1 PO2 hwr
        go_upto_region 11 with (first | go_big_skip | (first | go_big_skip | ((with_reducible apply wpList_loadAll HO); exact rfl; exact rfl; (repeat (with_reducible (first | exact At.head _ | apply At.tail))); infer_instance; exact rfl; exact rfl; (simp only [Act.put, List.setIfInBounds_toArray, List.set_cons_succ, List.set_cons_zero])) | ((with_reducible apply wpList_loadOne HO); exact rfl; exact rfl; (repeat (with_reducible (first | exact At.head _ | apply At.tail))); exact rfl; infer_instance; exact rfl; (simp only [Act.put, List.setIfInBounds_toArray, List.set_cons_succ, List.set_cons_zero]))) | ((with_reducible apply wpList_storeOne HO); exact rfl; exact rfl; (first | (simp [Act.eval]; rfl) | exact rfl); exact rfl; (repeat (with_reducible (first | exact At.head _ | apply At.tail))); infer_instance; exact (by simp); (simp only [List.set_cons_succ, List.set_cons_zero]; rfl); exact rfl; clear HO; intro w HO; (simp only [Act.put])))
        refine region_sched2 ([box b8 (.cells #[.string id9, .int .i64 ((k : Int) + 1), .int .i64 1, .int .i64 2, .int .i64 (-(nb - na))] 111), box ac (.cells #[av, .pointer (some ⟨ak, 0, none⟩), .int .i64 A.p0, .int .i64 A.q0, i.v0, .int .i64 A.p1, .int .i64 A.q1, i.v1, .int .i64 A.p2, .int .i64 A.q2, i.v2, i.m] 82)]) [(0, true), (1, true), (2, true), (3, true), (4, true), (5, false)] HO (by with_reducible (repeat (first | exact List.nil_sublist _ | apply List.Sublist.cons_cons | apply List.Sublist.cons))) (by kernel_rfl) (by kernel_rfl) ?_
        clear HO
        intro w HO
        repeat (first | ((with_reducible apply wpSched_loadOne); exact rfl; exact rfl; exact rfl; (repeat (with_reducible (first | exact At.head _ | apply At.tail))); exact rfl; infer_instance; exact rfl; (simp only [Act.put, List.setIfInBounds_toArray, List.set_cons_succ, List.set_cons_zero])) | ((with_reducible apply wpSched_loadAll); exact rfl; exact rfl; exact rfl; (repeat (with_reducible (first | exact At.head _ | apply At.tail))); infer_instance; exact rfl; exact rfl; (simp only [Act.put, List.setIfInBounds_toArray, List.set_cons_succ, List.set_cons_zero])) | ((with_reducible apply wpSched_pure); exact rfl; exact rfl; (intro w'; go_simp; try with_reducible rfl); (simp only [Act.put, List.setIfInBounds_toArray, List.set_cons_succ, List.set_cons_zero])))
        ((with_reducible apply wpSched_loud); exact rfl; go_wp2_with ((go_at_call 49; go_must ((have h9 := PO _ _ _ HO (by intro v9; (repeat (with_reducible (first | exact At.head _ | apply At.tail))))); (with_reducible refine h9.mono ?_); clear h9 HO; rintro e w ⟨rfl, u9, HO⟩))))
        refine thenQ_free (by kernel_rfl) ?_
        refine wpSched_end ?_
        go_wp2_with fail
        replace HO := HO.tail
        go_roundw
        case rel => exact ⟨k + 1, hk60, by go_num, u9, by rw [hPy]; exact HO⟩
        case measure => simp [intOf] <;> omega
      · rw [if_neg c1] at hnx
        obtain rfl := hnx.out
        have PO := PO1 (nb - na) (inI_iff.2 (by omega))
        have c2 : 0 < nb - na := by omega
        clear PO1 PO2 hwr
        go_upto_region 11 with (first | go_big_skip | (first | go_big_skip | ((with_reducible apply wpList_loadAll HO); exact rfl; exact rfl; (repeat (with_reducible (first | exact At.head _ | apply At.tail))); infer_instance; exact rfl; exact rfl; (simp only [Act.put, List.setIfInBounds_toArray, List.set_cons_succ, List.set_cons_zero])) | ((with_reducible apply wpList_loadOne HO); exact rfl; exact rfl; (repeat (with_reducible (first | exact At.head _ | apply At.tail))); exact rfl; infer_instance; exact rfl; (simp only [Act.put, List.setIfInBounds_toArray, List.set_cons_succ, List.set_cons_zero]))) | ((with_reducible apply wpList_storeOne HO); exact rfl; exact rfl; (first | (simp [Act.eval]; rfl) | exact rfl); exact rfl; (repeat (with_reducible (first | exact At.head _ | apply At.tail))); infer_instance; exact (by simp); (simp only [List.set_cons_succ, List.set_cons_zero]; rfl); exact rfl; clear HO; intro w HO; (simp only [Act.put])))
        refine region_sched2 ([box b8 (.cells #[.string id9, .int .i64 ((k : Int) + 1), .int .i64 2, .int .i64 1, .int .i64 (nb - na)] 111), box ac (.cells #[av, .pointer (some ⟨ak, 0, none⟩), .int .i64 A.p0, .int .i64 A.q0, i.v0, .int .i64 A.p1, .int .i64 A.q1, i.v1, .int .i64 A.p2, .int .i64 A.q2, i.v2, i.m] 82)]) [(0, true), (1, true), (2, true), (3, true), (4, true), (5, false)] HO (by with_reducible (repeat (first | exact List.nil_sublist _ | apply List.Sublist.cons_cons | apply List.Sublist.cons))) (by kernel_rfl) (by kernel_rfl) ?_
        clear HO
        intro w HO
        repeat (first | ((with_reducible apply wpSched_loadOne); exact rfl; exact rfl; exact rfl; (repeat (with_reducible (first | exact At.head _ | apply At.tail))); exact rfl; infer_instance; exact rfl; (simp only [Act.put, List.setIfInBounds_toArray, List.set_cons_succ, List.set_cons_zero])) | ((with_reducible apply wpSched_loadAll); exact rfl; exact rfl; exact rfl; (repeat (with_reducible (first | exact At.head _ | apply At.tail))); infer_instance; exact rfl; exact rfl; (simp only [Act.put, List.setIfInBounds_toArray, List.set_cons_succ, List.set_cons_zero])) | ((with_reducible apply wpSched_pure); exact rfl; exact rfl; (intro w'; go_simp; try with_reducible rfl); (simp only [Act.put, List.setIfInBounds_toArray, List.set_cons_succ, List.set_cons_zero])))
        ((with_reducible apply wpSched_loud); exact rfl; go_wp2_with ((go_at_call 49; go_must ((have h9 := PO _ _ _ HO (by intro v9; (repeat (with_reducible (first | exact At.head _ | apply At.tail))))); (with_reducible refine h9.mono ?_); clear h9 HO; rintro e w ⟨rfl, u9, HO⟩))))
        refine thenQ_free (by kernel_rfl) ?_
        refine wpSched_end ?_
        go_wp2_with fail
        replace HO := HO.tail
        go_roundw
        case rel => exact ⟨k + 1, hk60, by go_num, u9, by rw [hPy]; exact HO⟩
        case measure => simp [intOf] <;> omega
end Go.Proofs.YtibabfedpdoofaaDoor
namespace Go.Proofs.YtibabfedpdoofaaDoor
open Go.RowKit Go.Own

structure EntS where
  k : Int
  id : Int
  ref : List UInt8
  sku : List UInt8
  qty : Int
  amt : Int
  o : Int
  d : Int
  c : Int
  p : Int
  q : Int
  rs : List RowS
def checkE (x : EntS) : Int := if x.k = 1 then ordCheck x.id x.ref x.sku x.qty x.amt else if x.k = 2 then (if keyOk x.o 0 = true then 0 else 2) else
  if x.k = 3 then (if keyOk x.o x.d = true ∧ (x.c = 1 ∨ x.c = 2) then 0 else 2) else if x.k = 4 then (if okStmt x.p x.q x.rs = true then 0 else 2) else 2
theorem five (k : Int) : k = 1 ∨ k = 2 ∨ k = 3 ∨ k = 4 ∨ (k ≠ 1 ∧ k ≠ 2 ∧ k ≠ 3 ∧ k ≠ 4) := by omega

end Go.Proofs.YtibabfedpdoofaaDoor

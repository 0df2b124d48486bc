/-
  The statement of some bytes, by walking the document's text; conditions: texts that are not too long.
-/
import Derived.Test.YtlfphfklcifgpaaDoorRowNums
import Derived.Test.YtlfphfklcifgpaaDoorRowRefPut
import Derived.Test.YtlfphfklcifgpaaDoorOwn3
namespace Go.Proofs.YtlfphfklcifgpaaDoor
open Go.RowKit Go.Own

def rowC (r : RowS) : List Value := [.int .i64 r.o, .int .i64 r.d, .int .i64 r.code, .int .i64 r.amt, .int .i64 r.qty]
theorem rowC_len (rs : List RowS) : ∀ l ∈ rs.map rowC, l.length = 5 := fun l hl => by obtain ⟨x, _, rfl⟩ := List.mem_map.1 hl; rfl
theorem isRows_of_isL {w : World} {v : Value} {rs : List RowS} (h : IsL w 5 v (rs.map rowC)) : IsRows w v rs := by
  generalize hL : rs.map rowC = M at h
  cases h with
  | none sp sc hn => obtain rfl : rs = [] := by simpa using hL
                     exact .none sp sc hn
  | some a cap M hlen hcap h0 hR =>
    subst hL
    simp only [List.length_map] at hlen h0 ⊢
    refine .some a cap rs hlen hcap h0 ⟨hR.lt, fun i hi => hR.c0 i (by simpa using hi) _ (by simp [rowC]), fun i hi => ?_, fun i hi => ?_, fun i hi => ?_, fun i hi => ?_⟩
    · exact hR.cj i (by simpa using hi) 0 _ (by simp [rowC])
    · exact hR.cj i (by simpa using hi) 1 _ (by simp [rowC])
    · exact hR.cj i (by simpa using hi) 2 _ (by simp [rowC])
    · exact hR.cj i (by simpa using hi) 3 _ (by simp [rowC])
theorem ownRows {W w : World} {L L' : List Ent} {t : Nat} {v : Value} {rs : List RowS} (h : Own W w L) (hat : At (row t 5 v (rs.map rowC)) (row t 5 v (rs.map rowC)) L L') : IsRows w v rs := isRows_of_isL (isL_of_owns (rowC_len rs) (h.has _ hat.mem))

def rowAtN (A : List Nat) (j : Nat) : RowS := ⟨A.getD (3 + 5 * j) 0, A.getD (3 + 5 * j + 1) 0, A.getD (3 + 5 * j + 2) 0, A.getD (3 + 5 * j + 3) 0, A.getD (3 + 5 * j + 4) 0⟩
def rowsTo (A : List Nat) (m : Nat) : List RowS := (List.range m).map (rowAtN A)
theorem rowsTo_succ (A : List Nat) (m : Nat) : rowsTo A (m + 1) = rowsTo A m ++ [rowAtN A m] := by simp [rowsTo, List.range_succ]
theorem rowsTo_len (A : List Nat) (m : Nat) : (rowsTo A m).length = m := by simp [rowsTo]
/-- A statement: its party, number, rows. -/
abbrev Stmt := Int × Int × List RowS
def getN (l : List UInt8) (A : List Nat) : Option Stmt := if okStmt (A.getD 0 0) (A.getD 1 0) (rowsTo A (A.length / 5)) = true ∧ putStmt (A.getD 0 0) (A.getD 1 0) (rowsTo A (A.length / 5)) = l then some ((A.getD 0 0 : Nat), (A.getD 1 0 : Nat), rowsTo A (A.length / 5)) else none
def getR (l : List UInt8) : Option Stmt := match numsOf l with
  | some A => if A.length % 5 = 3 then getN l A else none
  | none => none
theorem wrap_n (n : Nat) (h : n ≤ 1099511627776) : IntKind.i64.wrap (n : Int) = n := by
  simp [IntKind.wrap, IntKind.bits, IntKind.signed]; omega
theorem numsF_ok : ∀ (k : Nat) (l : List UInt8) (A : List Nat), numsF k l = some A → (∀ n ∈ A, n ≤ rdMost) ∧ A.length ≤ l.length
  | k, [], A, h => by
    cases k <;> (simp only [numsF, Option.some.injEq] at h; subst h; simp)
  | 0, _ :: _, A, h => by simp [numsF] at h
  | k + 1, c :: l, A, h => by
    simp only [numsF] at h
    cases hr : readB (c :: l) with
    | none => rw [hr] at h; simp at h
    | some x =>
      obtain ⟨n, r⟩ := x
      have hl := readB_len hr
      rw [hr] at h
      simp only at h
      split at h
      · rename_i hn
        cases h1 : numsF k r with
        | none => rw [h1] at h; simp at h
        | some B =>
          rw [h1] at h
          simp only [Option.map_some, Option.some.injEq] at h
          subst h
          obtain ⟨a, b⟩ := numsF_ok k r B h1
          refine ⟨fun m hm => ?_, by simp only [List.length_cons] at hl ⊢; omega⟩
          rcases List.mem_cons.1 hm with rfl | hm
          · exact hn
          · exact a m hm
      · cases h
theorem numsOf_ok {l : List UInt8} {A : List Nat} (h : numsOf l = some A) : (∀ n ∈ A, n ≤ rdMost) ∧ A.length ≤ l.length := numsF_ok _ _ _ h
theorem numsOf_at {l : List UInt8} {A : List Nat} (h : numsOf l = some A) {i : Nat} (hi : i < A.length) : (A.map numC)[i]? = some [.int .u64 (A.getD i 0 : Nat)] ∧ A.getD i 0 ≤ 1099511627776 := by
  obtain ⟨a, _⟩ := numsOf_ok h
  rw [List.getD_eq_getElem?_getD, List.getElem?_map, List.getElem?_eq_getElem hi]
  exact ⟨rfl, a _ (List.getElem_mem hi)⟩

/-- What a call hands back: a statement, its rows in memory of the caller's own. -/
def StmtPost (o : Option Stmt) (W : World) (L : List Ent) (e : Ending) (w' : World) : Prop := match o with
  | some (p, q, rs) => ∃ v, e = .returned (.tuple #[.agg #[.int .i64 p, .int .i64 q, v], .int .i64 0]) ∧ Own W w' (row 45 5 v (rs.map rowC) :: L)
  | none => e = .returned (.tuple #[.agg #[.int .i64 0, .int .i64 0, .slice none 0 0], .int .i64 10]) ∧ Own W w' L

set_option maxHeartbeats 4000000 in
set_option maxRecDepth 100000 in
theorem refGet_any {W w : World} {L : List Ent} (l : List UInt8) (hl : l.length ≤ 100000) (HO : Own W w L) : Calls Tryd.prog 71 #[.string ⟨l.toArray⟩] w (StmtPost (getR l) W L) := by
  have hN : ∀ {w : World} {L : List Ent}, Own W w L → Calls Tryd.prog 90 #[.string ⟨l.toArray⟩] w (NumsPost l W L) := fun h => numbers_any l hl h
  unfold NumsPost at hN
  cases hA : numsOf l with
  | none =>
    have HG := Lib.hid (show getR l = none by simp [getR, hA])
    rw [hA] at hN
    simp only at hN
    go_enter Tryd.func71, Tryd.ntmps71
    go_wp2_with (first | (first | go_big_skip | ((with_reducible apply wpList_loadAll HO); exact rfl; exact rfl; (repeat (with_reducible (first | exact At.head _ | apply At.tail))); infer_instance; exact rfl; exact rfl; (simp only [Act.put, List.setIfInBounds_toArray, List.set_cons_succ, List.set_cons_zero])) | ((with_reducible apply wpList_loadOne HO); exact rfl; exact rfl; (repeat (with_reducible (first | exact At.head _ | apply At.tail))); exact rfl; infer_instance; exact rfl; (simp only [Act.put, List.setIfInBounds_toArray, List.set_cons_succ, List.set_cons_zero])) | ((with_reducible apply wpList_storeAll HO); exact rfl; exact rfl; exact rfl; (repeat (with_reducible (first | exact At.head _ | apply At.tail))); infer_instance; exact rfl; exact rfl; exact rfl; exact rfl; clear HO; intro w HO; (simp only [Act.put])) | (first | ((with_reducible apply wpList_boxAgg _ HO rfl); exact rfl; exact rfl; exact rfl; clear HO; intro b0 w HO; (simp only [Act.put, List.setIfInBounds_toArray, List.set_cons_succ, List.set_cons_zero])) | ((with_reducible apply wpList_allocAgg _ HO rfl); exact rfl; infer_instance; exact rfl; clear HO; intro b0 w HO; (simp only [Act.put, List.setIfInBounds_toArray, List.set_cons_succ, List.set_cons_zero])))) | (go_at_call 90; go_must ((with_reducible refine (hN HO).mono ?_); rintro e w ⟨rfl, HO1⟩; clear HO; have HO := HO1; clear HO1)))
    refine bodyPost_ret (results_box HO rfl rfl (by (repeat (with_reducible (first | exact At.head _ | apply At.tail)))) inferInstance rfl rfl) rfl ?_
    rw [HG.out]
    exact ⟨rfl, HO.tail⟩
  | some A =>
    rw [hA] at hN
    simp only at hN
    have HAT := Lib.hid (fun i hi => @numsOf_at l A hA i hi)
    have hAl := (numsOf_ok hA).2
    by_cases h3 : A.length % 5 = 3
    · have HG := Lib.hid (show getR l = getN l A by simp [getR, hA, h3])
      clear hA
      have hlt2 : decide ((A.length : Int) < 3) = false := by simp; omega
      have h5 : ((A.length : Int) % 5 != 3) = false := by simp; omega
      have hge : 3 ≤ A.length := by omega
      have hg0 : 0 < A.length := by omega
      have hg1 : 1 < A.length := by omega
      have hge0 : (0 : Int) < (A.length : Int) := by omega
      have hge1 : (1 : Int) < (A.length : Int) := by omega
      obtain ⟨m, hm⟩ : ∃ m, A.length = 3 + 5 * m := ⟨A.length / 5, by omega⟩
      have hdiv : A.length / 5 = m := by omega
      have HAL := Lib.hid hm
      have HDV := Lib.hid hdiv
      clear hm hdiv
      go_enter Tryd.func71, Tryd.ntmps71
      go_wp2_with (first | (first | go_big_skip | ((with_reducible apply wpList_loadAll HO); exact rfl; exact rfl; (repeat (with_reducible (first | exact At.head _ | apply At.tail))); infer_instance; exact rfl; exact rfl; (simp only [Act.put, List.setIfInBounds_toArray, List.set_cons_succ, List.set_cons_zero])) | ((with_reducible apply wpList_loadOne HO); exact rfl; exact rfl; (repeat (with_reducible (first | exact At.head _ | apply At.tail))); exact rfl; infer_instance; exact rfl; (simp only [Act.put, List.setIfInBounds_toArray, List.set_cons_succ, List.set_cons_zero])) | ((with_reducible apply wpList_storeAll HO); exact rfl; exact rfl; exact rfl; (repeat (with_reducible (first | exact At.head _ | apply At.tail))); infer_instance; exact rfl; exact rfl; exact rfl; exact rfl; clear HO; intro w HO; (simp only [Act.put])) | (first | ((with_reducible apply wpList_boxAgg _ HO rfl); exact rfl; exact rfl; exact rfl; clear HO; intro b0 w HO; (simp only [Act.put, List.setIfInBounds_toArray, List.set_cons_succ, List.set_cons_zero])) | ((with_reducible apply wpList_allocAgg _ HO rfl); exact rfl; infer_instance; exact rfl; clear HO; intro b0 w HO; (simp only [Act.put, List.setIfInBounds_toArray, List.set_cons_succ, List.set_cons_zero])))) | (go_at_call 90; go_must ((with_reducible refine (hN HO).mono ?_); rintro e w ⟨v, rfl, HO1⟩; clear HO; have HO := HO1; clear HO1; obtain ⟨q, c, rfl⟩ := (HO.rowForm (.head _)).2 (by simp; omega); rw [List.length_map] at HO ⊢)))
      have hc0 := (HAT.out 0 (by omega)).1
      have hc1 := (HAT.out 1 (by omega)).1
      have hb0 := (HAT.out 0 (by omega)).2
      have hb1 := (HAT.out 1 (by omega)).2
      have hw0 := wrap_n (A.getD 0 0) (by omega)
      have hw1 := wrap_n (A.getD 1 0) (by omega)
      obtain ⟨x0, hx0⟩ : ∃ x, x = A.getD 0 0 := ⟨_, rfl⟩
      obtain ⟨x1, hx1⟩ : ∃ x, x = A.getD 1 0 := ⟨_, rfl⟩
      rw [← hx0] at hc0 hb0 hw0
      rw [← hx1] at hc1 hb1 hw1
      have HX0 := Lib.hid hx0
      have HX1 := Lib.hid hx1
      clear hx0 hx1
      refine region_sched2 ([row 105 1 (.slice (some q) A.length c) (A.map numC)]) [(0, true), (1, true), (2, true), (3, true), (4, true), (5, true), (6, true), (7, true), (8, true), (9, false), (10, false)] HO (by with_reducible (repeat (first | exact List.nil_sublist _ | apply List.Sublist.cons_cons | apply List.Sublist.cons))) (by kernel_rfl) (by kernel_rfl) ?_
      clear HO
      intro w HO
      repeat (first | ((with_reducible apply wpSched_loadAt1); exact rfl; exact rfl; exact rfl; exact (fun w' hw => hw.rowAt0 (by (repeat (with_reducible (first | exact At.head _ | apply At.tail)))) (numLen A) hc0); infer_instance; exact rfl; (simp only [Act.put, List.setIfInBounds_toArray, List.set_cons_succ, List.set_cons_zero])) | ((with_reducible apply wpSched_loadAt1); exact rfl; exact rfl; exact rfl; exact (fun w' hw => hw.rowAt1 (by (repeat (with_reducible (first | exact At.head _ | apply At.tail)))) (numLen A) hc1); infer_instance; exact rfl; (simp only [Act.put, List.setIfInBounds_toArray, List.set_cons_succ, List.set_cons_zero])) | ((with_reducible apply wpSched_pure); exact rfl; exact rfl; (intro w'; go_simp; try with_reducible rfl); (simp only [Act.put, List.setIfInBounds_toArray, List.set_cons_succ, List.set_cons_zero])))
      ((with_reducible apply wpSched_loud); exact rfl; (first | ((with_reducible apply wpList_boxAgg _ HO rfl); exact rfl; exact rfl; exact rfl; clear HO; intro b1 w HO; (simp only [Act.put, List.setIfInBounds_toArray, List.set_cons_succ, List.set_cons_zero])) | ((with_reducible apply wpList_allocAgg _ HO rfl); exact rfl; infer_instance; exact rfl; clear HO; intro b1 w HO; (simp only [Act.put, List.setIfInBounds_toArray, List.set_cons_succ, List.set_cons_zero])) | ((with_reducible apply wpList_boxOne _ HO rfl); exact rfl; (first | (simp [Act.eval]; rfl) | exact rfl); exact rfl; exact rfl; clear HO; intro b1 w HO; (simp only [Act.put, List.setIfInBounds_toArray, List.set_cons_succ, List.set_cons_zero])) | ((with_reducible apply wpList_alloc _ HO rfl); exact rfl; infer_instance; exact rfl; exact rfl; clear HO; intro b1 w HO; (simp only [Act.put, List.setIfInBounds_toArray, List.set_cons_succ, List.set_cons_zero]))))
      refine wpList_nil (thenQ_keep (HO.held (by with_reducible (repeat (first | exact List.nil_sublist _ | apply List.Sublist.cons_cons | apply List.Sublist.cons)))) ?_)
      ((with_reducible apply wpSched_loud); exact rfl; ((with_reducible apply wpList_storeAll HO); exact rfl; exact rfl; exact rfl; (repeat (with_reducible (first | exact At.head _ | apply At.tail))); infer_instance; exact rfl; exact rfl; exact rfl; exact rfl; clear HO; intro w HO; (simp only [Act.put])))
      refine wpList_nil (thenQ_free (by kernel_rfl) ?_)
      refine wpSched_end ?_
      go_wp2_with fail
      replace HO := HO.nil 45 5
      go_loopw [7] (fun i wr => ∃ (j : Nat) (v : Value), j ≤ m ∧ i = .int .i64 ((3 + 5 * j : Nat) : Int) ∧ Own W wr (row 45 5 v ((rowsTo A j).map rowC) :: box b1 (.cells #[.int .i64 x0, .int .i64 x1, v] 28) :: row 105 1 (.slice (some q) A.length c) (A.map numC) :: box b0 (.cells #[.int .i64 0, .int .i64 0, .slice none 0 0] 28) :: L)) (fun i _ => A.length + 5 - (intOf i).toNat)
      case atStart => exact ⟨0, _, by omega, rfl, HO⟩
      case round =>
        clear HO
        obtain ⟨j, v, hj, rfl, HO⟩ := hrel
        obtain ⟨⟨p2, c2, rfl⟩, -⟩ := HO.rowForm (.head _)
        rw [List.length_map, rowsTo_len] at HO
        obtain ⟨N, hNj⟩ : ∃ N, N = 3 + 5 * j := ⟨_, rfl⟩
        rw [← hNj]
        have HNJ := Lib.hid hNj
        clear hNj
        by_cases hjm : j = m
        · subst hjm
          have hNA : N = A.length := by rw [HNJ.out, HAL.out]
          subst hNA
          have hV := fun {w : World} {v : Value} (h : IsRows w v (rowsTo A j)) => refValid_any x0 x1 h
          have hP := fun {w : World} {v : Value} (h : IsRows w v (rowsTo A j)) => refPutStmt_any x0 x1 h
          have HGN := Lib.hid (show getN l A = if okStmt x0 x1 (rowsTo A j) = true ∧ putStmt x0 x1 (rowsTo A j) = l then some ((x0 : Int), (x1 : Int), rowsTo A j) else none by unfold getN; rw [HDV.out, ← HX0.out, ← HX1.out])
          generalize hok : okStmt x0 x1 (rowsTo A j) = ok at *
          cases ok
          · go_wp2_with (first | (first | go_big_skip | ((with_reducible apply wpList_loadAll HO); exact rfl; exact rfl; (repeat (with_reducible (first | exact At.head _ | apply At.tail))); infer_instance; exact rfl; exact rfl; (simp only [Act.put, List.setIfInBounds_toArray, List.set_cons_succ, List.set_cons_zero])) | ((with_reducible apply wpList_loadOne HO); exact rfl; exact rfl; (repeat (with_reducible (first | exact At.head _ | apply At.tail))); exact rfl; infer_instance; exact rfl; (simp only [Act.put, List.setIfInBounds_toArray, List.set_cons_succ, List.set_cons_zero])) | ((with_reducible apply wpList_storeAll HO); exact rfl; exact rfl; exact rfl; (repeat (with_reducible (first | exact At.head _ | apply At.tail))); infer_instance; exact rfl; exact rfl; exact rfl; exact rfl; clear HO; intro w HO; (simp only [Act.put])) | (first | ((with_reducible apply wpList_boxAgg _ HO rfl); exact rfl; exact rfl; exact rfl; clear HO; intro b9 w HO; (simp only [Act.put, List.setIfInBounds_toArray, List.set_cons_succ, List.set_cons_zero])) | ((with_reducible apply wpList_allocAgg _ HO rfl); exact rfl; infer_instance; exact rfl; clear HO; intro b9 w HO; (simp only [Act.put, List.setIfInBounds_toArray, List.set_cons_succ, List.set_cons_zero])))) | (go_at_call 46; go_must ((with_reducible refine (hV (ownRows HO (.head _))).mono ?_); rintro e w ⟨rfl, hb⟩; replace HO := HO.call hb; clear hb)))
            refine bodyPost_ret (results_box HO rfl rfl (by (repeat (with_reducible (first | exact At.head _ | apply At.tail)))) inferInstance rfl rfl) rfl ?_
            rw [HG.out, HGN.out]
            exact ⟨rfl, HO.tail.tail.tail.tail⟩
          · by_cases hpl : putStmt x0 x1 (rowsTo A j) = l
            · rw [hpl] at hP
              go_wp2_with (first | (first | go_big_skip | ((with_reducible apply wpList_loadAll HO); exact rfl; exact rfl; (repeat (with_reducible (first | exact At.head _ | apply At.tail))); infer_instance; exact rfl; exact rfl; (simp only [Act.put, List.setIfInBounds_toArray, List.set_cons_succ, List.set_cons_zero])) | ((with_reducible apply wpList_loadOne HO); exact rfl; exact rfl; (repeat (with_reducible (first | exact At.head _ | apply At.tail))); exact rfl; infer_instance; exact rfl; (simp only [Act.put, List.setIfInBounds_toArray, List.set_cons_succ, List.set_cons_zero])) | ((with_reducible apply wpList_storeAll HO); exact rfl; exact rfl; exact rfl; (repeat (with_reducible (first | exact At.head _ | apply At.tail))); infer_instance; exact rfl; exact rfl; exact rfl; exact rfl; clear HO; intro w HO; (simp only [Act.put])) | (first | ((with_reducible apply wpList_boxAgg _ HO rfl); exact rfl; exact rfl; exact rfl; clear HO; intro b9 w HO; (simp only [Act.put, List.setIfInBounds_toArray, List.set_cons_succ, List.set_cons_zero])) | ((with_reducible apply wpList_allocAgg _ HO rfl); exact rfl; infer_instance; exact rfl; clear HO; intro b9 w HO; (simp only [Act.put, List.setIfInBounds_toArray, List.set_cons_succ, List.set_cons_zero])))) | (go_at_call 46; go_must ((with_reducible refine (hV (ownRows HO (.head _))).mono ?_); rintro e w ⟨rfl, hb⟩; replace HO := HO.call hb; clear hb)) | (go_at_call 64; go_must ((with_reducible refine (hP (ownRows HO (.head _))).mono ?_); rintro e w ⟨rfl, hb⟩; replace HO := HO.call hb; clear hb)))
              refine bodyPost_ret (results_box HO rfl rfl (by (repeat (with_reducible (first | exact At.head _ | apply At.tail)))) inferInstance rfl rfl) rfl ?_
              rw [HG.out, HGN.out, if_pos ⟨trivial, hpl⟩]
              exact ⟨_, rfl, HO.sub (by exact .cons_cons _ (.cons _ (.cons _ (.cons _ (List.Sublist.refl _)))))⟩
            · replace HGN := Lib.hid (HGN.out.trans (if_neg fun h => hpl h.2))
              generalize putStmt x0 x1 (rowsTo A j) = X at *
              have hn1 : (X == l) = false := by simpa using hpl
              go_wp2_with (first | (first | go_big_skip | ((with_reducible apply wpList_loadAll HO); exact rfl; exact rfl; (repeat (with_reducible (first | exact At.head _ | apply At.tail))); infer_instance; exact rfl; exact rfl; (simp only [Act.put, List.setIfInBounds_toArray, List.set_cons_succ, List.set_cons_zero])) | ((with_reducible apply wpList_loadOne HO); exact rfl; exact rfl; (repeat (with_reducible (first | exact At.head _ | apply At.tail))); exact rfl; infer_instance; exact rfl; (simp only [Act.put, List.setIfInBounds_toArray, List.set_cons_succ, List.set_cons_zero])) | ((with_reducible apply wpList_storeAll HO); exact rfl; exact rfl; exact rfl; (repeat (with_reducible (first | exact At.head _ | apply At.tail))); infer_instance; exact rfl; exact rfl; exact rfl; exact rfl; clear HO; intro w HO; (simp only [Act.put])) | (first | ((with_reducible apply wpList_boxAgg _ HO rfl); exact rfl; exact rfl; exact rfl; clear HO; intro b9 w HO; (simp only [Act.put, List.setIfInBounds_toArray, List.set_cons_succ, List.set_cons_zero])) | ((with_reducible apply wpList_allocAgg _ HO rfl); exact rfl; infer_instance; exact rfl; clear HO; intro b9 w HO; (simp only [Act.put, List.setIfInBounds_toArray, List.set_cons_succ, List.set_cons_zero])))) | (go_at_call 46; go_must ((with_reducible refine (hV (ownRows HO (.head _))).mono ?_); rintro e w ⟨rfl, hb⟩; replace HO := HO.call hb; clear hb)) | (go_at_call 64; go_must ((with_reducible refine (hP (ownRows HO (.head _))).mono ?_); rintro e w ⟨rfl, hb⟩; replace HO := HO.call hb; clear hb)))
              refine bodyPost_ret (results_box HO rfl rfl (by (repeat (with_reducible (first | exact At.head _ | apply At.tail)))) inferInstance rfl rfl) rfl ?_
              rw [HG.out, HGN.out]
              exact ⟨rfl, HO.tail.tail.tail.tail⟩
        · have hA4 : N + 4 < A.length := by rw [HNJ.out, HAL.out]; omega
          have hi0 : N < A.length := by omega
          have hi1 : N + 1 < A.length := by omega
          have hi2 : N + 2 < A.length := by omega
          have hi3 : N + 3 < A.length := by omega
          have hi0' : (N : Int) < (A.length : Int) := by omega
          have hjl : ((rowsTo A j).map rowC).length + 1 ≤ 1000000 := by rw [List.length_map, rowsTo_len]; have := HAL.out; omega
          have hp1 : (0 : Int) ≤ (N : Int) + 1 := by omega
          have hq1 : (N : Int) + 1 < (A.length : Int) := by omega
          have hp2 : (0 : Int) ≤ (N : Int) + 2 := by omega
          have hq2 : (N : Int) + 2 < (A.length : Int) := by omega
          have hp3 : (0 : Int) ≤ (N : Int) + 3 := by omega
          have hq3 : (N : Int) + 3 < (A.length : Int) := by omega
          have hp4 : (0 : Int) ≤ (N : Int) + 4 := by omega
          have hq4 : (N : Int) + 4 < (A.length : Int) := by omega
          have e1 : IntKind.i64.wrap ((N : Int) + 1) = ((N + 1 : Nat) : Int) := by rw [← Int.natCast_succ]; exact wrap_n _ (by omega)
          have e2 : IntKind.i64.wrap ((N : Int) + 2) = ((N + 2 : Nat) : Int) := wrap_n (N + 2) (by omega)
          have e3 : IntKind.i64.wrap ((N : Int) + 3) = ((N + 3 : Nat) : Int) := wrap_n (N + 3) (by omega)
          have e4 : IntKind.i64.wrap ((N : Int) + 4) = ((N + 4 : Nat) : Int) := wrap_n (N + 4) (by omega)
          have c0 := HAT.out N hi0
          have c1 := HAT.out (N + 1) hi1
          have c2' := HAT.out (N + 2) hi2
          have c3 := HAT.out (N + 3) hi3
          have c4 := HAT.out (N + 4) hA4
          have HRA := Lib.hid (show rowAtN A j = ⟨A.getD N 0, A.getD (N + 1) 0, A.getD (N + 2) 0, A.getD (N + 3) 0, A.getD (N + 4) 0⟩ by rw [HNJ.out]; rfl)
          generalize A.getD N 0 = y0 at *
          generalize A.getD (N + 1) 0 = y1 at *
          generalize A.getD (N + 2) 0 = y2 at *
          generalize A.getD (N + 3) 0 = y3 at *
          generalize A.getD (N + 4) 0 = y4 at *
          have z0 := wrap_n y0 c0.2
          have z1 := wrap_n y1 c1.2
          have z2 := wrap_n y2 c2'.2
          have z3 := wrap_n y3 c3.2
          have z4 := wrap_n y4 c4.2
          replace c0 := c0.1
          replace c1 := c1.1
          replace c2' := c2'.1
          replace c3 := c3.1
          replace c4 := c4.1
          go_wp2_with (first | (first | go_big_skip | ((with_reducible apply wpList_loadAll HO); exact rfl; exact rfl; (repeat (with_reducible (first | exact At.head _ | apply At.tail))); infer_instance; exact rfl; exact rfl; (simp only [Act.put, List.setIfInBounds_toArray, List.set_cons_succ, List.set_cons_zero])) | ((with_reducible apply wpList_loadOne HO); exact rfl; exact rfl; (repeat (with_reducible (first | exact At.head _ | apply At.tail))); exact rfl; infer_instance; exact rfl; (simp only [Act.put, List.setIfInBounds_toArray, List.set_cons_succ, List.set_cons_zero]))) | fail)
          refine region_sched2 ([box b1 (.cells #[.int .i64 x0, .int .i64 x1, .slice p2 j c2] 28), row 105 1 (.slice (some q) A.length c) (A.map numC)]) [(0, true), (1, true), (2, true), (3, true), (4, true), (5, true), (6, true), (7, true), (8, true), (9, true), (10, true), (11, true), (12, true), (13, true), (14, true), (15, true), (16, true), (17, true), (18, true), (19, true), (20, true), (21, true), (22, true), (23, true), (24, true), (25, true), (26, true), (27, true), (28, true), (29, true), (30, true), (31, true), (32, true), (33, false), (34, false), (35, true), (36, false)] HO (by with_reducible (repeat (first | exact List.nil_sublist _ | apply List.Sublist.cons_cons | apply List.Sublist.cons))) (by kernel_rfl) (by kernel_rfl) ?_
          clear HO
          intro w HO
          repeat (first | ((with_reducible apply wpSched_loadOne); exact rfl; exact rfl; exact rfl; (repeat (with_reducible (first | exact At.head _ | apply At.tail))); exact rfl; infer_instance; exact rfl; (simp only [Act.put, List.setIfInBounds_toArray, List.set_cons_succ, List.set_cons_zero])) | ((with_reducible apply wpSched_loadAt1); exact rfl; exact rfl; exact rfl; exact (fun w' hw => hw.rowAt1 (by (repeat (with_reducible (first | exact At.head _ | apply At.tail)))) (numLen A) c0); infer_instance; exact rfl; (simp only [Act.put, List.setIfInBounds_toArray, List.set_cons_succ, List.set_cons_zero])) | ((with_reducible apply wpSched_loadAt1); exact rfl; exact rfl; exact rfl; exact (fun w' hw => hw.rowAtS (by (repeat (with_reducible (first | exact At.head _ | apply At.tail)))) (numLen A) c1); infer_instance; exact rfl; (simp only [Act.put, List.setIfInBounds_toArray, List.set_cons_succ, List.set_cons_zero])) | ((with_reducible apply wpSched_loadAt1); exact rfl; exact rfl; exact rfl; exact (fun w' hw => hw.rowAtS (by (repeat (with_reducible (first | exact At.head _ | apply At.tail)))) (numLen A) c2'); infer_instance; exact rfl; (simp only [Act.put, List.setIfInBounds_toArray, List.set_cons_succ, List.set_cons_zero])) | ((with_reducible apply wpSched_loadAt1); exact rfl; exact rfl; exact rfl; exact (fun w' hw => hw.rowAtS (by (repeat (with_reducible (first | exact At.head _ | apply At.tail)))) (numLen A) c3); infer_instance; exact rfl; (simp only [Act.put, List.setIfInBounds_toArray, List.set_cons_succ, List.set_cons_zero])) | ((with_reducible apply wpSched_loadAt1); exact rfl; exact rfl; exact rfl; exact (fun w' hw => hw.rowAtS (by (repeat (with_reducible (first | exact At.head _ | apply At.tail)))) (numLen A) c4); infer_instance; exact rfl; (simp only [Act.put, List.setIfInBounds_toArray, List.set_cons_succ, List.set_cons_zero])) | ((with_reducible apply wpSched_pure); exact rfl; exact rfl; (intro w'; go_simp; try with_reducible rfl); (simp only [Act.put, List.setIfInBounds_toArray, List.set_cons_succ, List.set_cons_zero])))
          ((with_reducible apply wpSched_loud); exact rfl; (first | ((with_reducible apply wpList_lit1 HO); exact rfl; infer_instance; infer_instance; exact rfl; exact rfl; exact (by decide); exact rfl; clear HO; intro b2 w HO; (simp only [Act.put, List.setIfInBounds_toArray, List.set_cons_succ, List.set_cons_zero])) | ((with_reducible apply wpList_lit1c HO); exact rfl; infer_instance; infer_instance; (first | (simp [Act.eval]; rfl) | exact rfl); exact rfl; exact rfl; clear HO; intro b2 w HO; (simp only [Act.put, List.setIfInBounds_toArray, List.set_cons_succ, List.set_cons_zero]))))
          refine wpList_nil (thenQ_keep (HO.held (by with_reducible (repeat (first | exact List.nil_sublist _ | apply List.Sublist.cons_cons | apply List.Sublist.cons)))) ?_)
          ((with_reducible apply wpSched_loud); exact rfl; ((with_reducible apply wpList_push1 HO); exact rfl; infer_instance; infer_instance; (first | (simp [Act.eval]; rfl) | exact rfl); exact rfl; intro _; (repeat (with_reducible (first | exact At.head _ | apply At.tail))); exact rfl; exact rfl; (first | omega | (simp; omega)); decide; exact rfl; clear HO; intro v2 w HO hv2; (simp only [Act.put, List.setIfInBounds_toArray, List.set_cons_succ, List.set_cons_zero])))
          obtain ⟨p3, n3, c3, rfl⟩ := hv2
          refine wpList_nil (thenQ_keep (HO.held (by with_reducible (repeat (first | exact List.nil_sublist _ | apply List.Sublist.cons_cons | apply List.Sublist.cons)))) ?_)
          ((with_reducible apply wpSched_pure); exact rfl; exact rfl; (intro w'; go_simp; try with_reducible rfl); (simp only [Act.put, List.setIfInBounds_toArray, List.set_cons_succ, List.set_cons_zero]))
          ((with_reducible apply wpSched_loud); exact rfl; ((with_reducible apply wpList_storeOne HO); exact rfl; exact rfl; (first | (simp [Act.eval]; rfl) | exact rfl); exact rfl; (repeat (with_reducible (first | exact At.head _ | apply At.tail))); infer_instance; exact (by simp); (simp only [List.set_cons_succ, List.set_cons_zero]; rfl); exact rfl; clear HO; intro w HO; (simp only [Act.put])))
          refine wpList_nil (thenQ_free (by kernel_rfl) ?_)
          refine wpSched_end ?_
          have HO2 := Lib.hid (show Own W w (row 45 5 (.slice p3 n3 c3) ((rowsTo A (j + 1)).map rowC) :: _) by rw [rowsTo_succ, HRA.out, List.map_append]; exact HO)
          clear HO
          have e5 : IntKind.i64.wrap ((N : Int) + 5) = (N : Int) + 5 := wrap_n (N + 5) (by omega)
          go_wp2_with fail
          go_roundw
          case rel => exact ⟨j + 1, _, by omega, by rw [HNJ.out]; go_num, HO2.out⟩
          case measure => simp [intOf] <;> omega
    · have HG := Lib.hid (show getR l = none by simp [getR, hA, h3])
      clear hA
      by_cases hlt : A.length < 3
      · have hlt2 : (A.length : Int) < 3 := by omega
        go_enter Tryd.func71, Tryd.ntmps71
        go_wp2_with (first | (first | go_big_skip | ((with_reducible apply wpList_loadAll HO); exact rfl; exact rfl; (repeat (with_reducible (first | exact At.head _ | apply At.tail))); infer_instance; exact rfl; exact rfl; (simp only [Act.put, List.setIfInBounds_toArray, List.set_cons_succ, List.set_cons_zero])) | ((with_reducible apply wpList_loadOne HO); exact rfl; exact rfl; (repeat (with_reducible (first | exact At.head _ | apply At.tail))); exact rfl; infer_instance; exact rfl; (simp only [Act.put, List.setIfInBounds_toArray, List.set_cons_succ, List.set_cons_zero])) | ((with_reducible apply wpList_storeAll HO); exact rfl; exact rfl; exact rfl; (repeat (with_reducible (first | exact At.head _ | apply At.tail))); infer_instance; exact rfl; exact rfl; exact rfl; exact rfl; clear HO; intro w HO; (simp only [Act.put])) | (first | ((with_reducible apply wpList_boxAgg _ HO rfl); exact rfl; exact rfl; exact rfl; clear HO; intro b0 w HO; (simp only [Act.put, List.setIfInBounds_toArray, List.set_cons_succ, List.set_cons_zero])) | ((with_reducible apply wpList_allocAgg _ HO rfl); exact rfl; infer_instance; exact rfl; clear HO; intro b0 w HO; (simp only [Act.put, List.setIfInBounds_toArray, List.set_cons_succ, List.set_cons_zero])))) | (go_at_call 90; go_must ((with_reducible refine (hN HO).mono ?_); rintro e w ⟨v, rfl, HO1⟩; clear HO; have HO := HO1; clear HO1; obtain ⟨p, c, rfl⟩ := (HO.rowForm (.head _)).1; rw [List.length_map] at HO ⊢)))
        refine bodyPost_ret (results_box HO rfl rfl (by (repeat (with_reducible (first | exact At.head _ | apply At.tail)))) inferInstance rfl rfl) rfl ?_
        rw [HG.out]
        exact ⟨rfl, HO.tail.tail⟩
      · have hlt2 : decide ((A.length : Int) < 3) = false := by simp; omega
        have h5 : ((A.length : Int) % 5 != 3) = true := by simp; omega
        go_enter Tryd.func71, Tryd.ntmps71
        go_wp2_with (first | (first | go_big_skip | ((with_reducible apply wpList_loadAll HO); exact rfl; exact rfl; (repeat (with_reducible (first | exact At.head _ | apply At.tail))); infer_instance; exact rfl; exact rfl; (simp only [Act.put, List.setIfInBounds_toArray, List.set_cons_succ, List.set_cons_zero])) | ((with_reducible apply wpList_loadOne HO); exact rfl; exact rfl; (repeat (with_reducible (first | exact At.head _ | apply At.tail))); exact rfl; infer_instance; exact rfl; (simp only [Act.put, List.setIfInBounds_toArray, List.set_cons_succ, List.set_cons_zero])) | ((with_reducible apply wpList_storeAll HO); exact rfl; exact rfl; exact rfl; (repeat (with_reducible (first | exact At.head _ | apply At.tail))); infer_instance; exact rfl; exact rfl; exact rfl; exact rfl; clear HO; intro w HO; (simp only [Act.put])) | (first | ((with_reducible apply wpList_boxAgg _ HO rfl); exact rfl; exact rfl; exact rfl; clear HO; intro b0 w HO; (simp only [Act.put, List.setIfInBounds_toArray, List.set_cons_succ, List.set_cons_zero])) | ((with_reducible apply wpList_allocAgg _ HO rfl); exact rfl; infer_instance; exact rfl; clear HO; intro b0 w HO; (simp only [Act.put, List.setIfInBounds_toArray, List.set_cons_succ, List.set_cons_zero])))) | (go_at_call 90; go_must ((with_reducible refine (hN HO).mono ?_); rintro e w ⟨v, rfl, HO1⟩; clear HO; have HO := HO1; clear HO1; obtain ⟨p, c, rfl⟩ := (HO.rowForm (.head _)).1; rw [List.length_map] at HO ⊢)))
        refine bodyPost_ret (results_box HO rfl rfl (by (repeat (with_reducible (first | exact At.head _ | apply At.tail)))) inferInstance rfl rfl) rfl ?_
        rw [HG.out]
        exact ⟨rfl, HO.tail.tail⟩
end Go.Proofs.YtlfphfklcifgpaaDoor

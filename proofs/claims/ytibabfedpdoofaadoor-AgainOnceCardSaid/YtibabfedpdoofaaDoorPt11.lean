/-
  The order of a reference, the next try, all tries, what they came to, by walking the program's text; conditions: the core is one that entries come to.
  All tries of an order, and what they came to, by walking the program's text; conditions: the core is one that entries come to.
  The plain law of AgainPlaced: references of placed orders are apart, each order is in its own chain, and what Next tells can be placed; conditions: none.
  The sagas that can be come to, as a list: what leads from one to the next; conditions: none. No program in sight.
  The plain law of AgainOnce: what is tried again and again; conditions: none. No program in sight.
  What postings are called; plain.
  What the document's core comes to, and that it is what the program's does; plain.
  The document's numbers and keys as texts, by walking its text; conditions: int64 numbers.
  Postings told and books copied, by walking the program's and the library's text; conditions: less than 100000 postings.
-/
import Derived.Lib.ItoaMem
import Derived.Lib.SliceRun
import Derived.Test.YtibabfedpdoofaaDoorPt1
import Derived.Test.YtibabfedpdoofaaDoorPt3
import Derived.Test.YtibabfedpdoofaaDoorPt7
import Derived.Test.YtibabfedpdoofaaDoorPt8
import Derived.Test.YtibabfedpdoofaaDoorPt9
import Derived.Test.YtibabfedpdoofaaDoorPt10
namespace Go.Proofs.YtibabfedpdoofaaDoor
open Go.RowKit Go.Own Go.Maps

def findN (ref : List UInt8) : List (OrdS × D6) → Nat → Nat
  | [], _ => 0
  | x :: l, k => if x.1.ref = ref then k + 1 else findN ref l (k + 1)
def findL (L : List (OrdS × D6)) (ref : List UInt8) : Nat := findN ref L 0
theorem findN_step {L : List (OrdS × D6)} {ref : List UInt8} {j : Nat} (h : j < L.length) : findN ref (L.drop j) j = if L[j].1.ref = ref then j + 1 else findN ref (L.drop (j + 1)) (j + 1) := by
  rw [List.drop_eq_getElem_cons h]
  rfl
theorem findN_le (ref : List UInt8) : ∀ (l : List (OrdS × D6)) (k : Nat), findN ref l k ≤ k + l.length
  | [], k => by simp [findN]
  | x :: l, k => by
    unfold findN
    split
    · simp only [List.length_cons]; omega
    · have := findN_le ref l (k + 1)
      simp only [List.length_cons]
      omega
theorem findL_le (L : List (OrdS × D6)) (ref : List UInt8) : findL L ref ≤ L.length := by
  have := findN_le ref L 0
  unfold findL
  omega

set_option maxHeartbeats 8000000 in
set_option maxRecDepth 100000 in
theorem find_any {w : World} {a : CoA} {S : CoS} {i : InA} {A : InS} (h : CoAt w a S i A) (hl : S.L.length ≤ 60) (ref : List UInt8) : Calls Tryd.prog 40 #[.pointer (some ⟨a.c, 0, none⟩), .string ⟨ref.toArray⟩] w fun e w' => e = .returned (.int .i64 (findL S.L ref : Int)) ∧ Below w.heap.size w w' := by
  have HO := Own.start w
  have OC := Lib.hid (fun w' (hb : Below w.heap.size w w') => coOrders_any (h.below hb))
  have OR := Lib.hid (fun w' (hb : Below w.heap.size w w') (k : Nat) (hk : k < 60) => coOrder_any (h.below hb) (id := (k : Int) + 1) (inI_iff.2 (by omega)))
  have HS := Lib.hid (fun (j : Nat) (hj : j < S.L.length) => findN_step (ref := ref) hj)
  have HY := Lib.hid (fun (j : Nat) (hj : j < S.L.length) => ordAt_yes (L := S.L) (id := (j : Int) + 1) rfl hj)
  generalize hg : findL S.L ref = g0
  have hg0 : findN ref (S.L.drop 0) 0 = g0 := hg
  clear h hg
  go_enter Tryd.func40, Tryd.ntmps40
  go_wp2_with fail
  go_loopw [5] (fun iv wr => ∃ j : Nat, j ≤ S.L.length ∧ iv = .int .i64 ((j : Int) + 1) ∧ findN ref (S.L.drop j) j = g0 ∧ Own w wr []) (fun iv _ => 62 - (intOf iv).toNat)
  case atStart => exact ⟨0, by omega, rfl, hg0, HO⟩
  case round =>
    clear HO hg0
    obtain ⟨j, hj, rfl, hf, HO⟩ := hrel
    by_cases hjl : j < S.L.length
    · have hjI : (j : Int) + 1 ≤ (S.L.length : Int) := by omega
      have hst := HS.out j hjl
      have ORj := fun w' hb => OR.out w' hb j (by omega)
      rw [HY.out j hjl] at ORj
      rw [hf] at hst
      clear HS HY OR hf
      generalize S.L[j] = y at *
      obtain ⟨o, s⟩ := y
      simp only [ordR, sagaV] at ORj
      simp only at hst
      replace hst := Lib.hid hst
      by_cases hz : o.ref = ref
      · rw [if_pos hz] at hst
        obtain rfl := hst.out
        have hD : (o.ref == ref) = true := by simpa using hz
        clear hst hz
        go_wp2_with (first | go_big_skip | (first | go_big_skip | ((with_reducible apply wpList_loadAll HO); exact rfl; exact rfl; (repeat (with_reducible (first | exact At.head _ | apply At.tail))); infer_instance; exact rfl; exact rfl; (simp only [Act.put, List.setIfInBounds_toArray, List.set_cons_succ, List.set_cons_zero])) | ((with_reducible apply wpList_loadOne HO); exact rfl; exact rfl; (repeat (with_reducible (first | exact At.head _ | apply At.tail))); exact rfl; infer_instance; exact rfl; (simp only [Act.put, List.setIfInBounds_toArray, List.set_cons_succ, List.set_cons_zero]))) | ((with_reducible apply wpList_storeAll HO); exact rfl; exact rfl; exact rfl; (repeat (with_reducible (first | exact At.head _ | apply At.tail))); infer_instance; exact rfl; exact rfl; exact rfl; exact rfl; clear HO; intro w HO; (simp only [Act.put])) | (first | ((with_reducible apply wpList_boxAgg _ HO rfl); exact rfl; exact rfl; exact rfl; clear HO; intro b6 w HO; (simp only [Act.put, List.setIfInBounds_toArray, List.set_cons_succ, List.set_cons_zero])) | ((with_reducible apply wpList_allocAgg _ HO rfl); exact rfl; infer_instance; exact rfl; clear HO; intro b6 w HO; (simp only [Act.put, List.setIfInBounds_toArray, List.set_cons_succ, List.set_cons_zero]))) | (go_at_call 13; go_must ((with_reducible refine (OC.out _ HO.grown).mono ?_); rintro e w ⟨rfl, hb⟩; replace HO := HO.call hb; clear hb)) | (go_at_call 16; go_must ((with_reducible refine (ORj _ HO.grown).mono ?_); rintro e w ⟨rfl, hb⟩; replace HO := HO.call hb; clear hb)))
        go_ret
        exact ⟨by first | rfl | (congr 2), HO.grown⟩
      · rw [if_neg hz] at hst
        have hD : (o.ref == ref) = false := by simpa using hz
        clear hz
        go_wp2_with (first | go_big_skip | (first | go_big_skip | ((with_reducible apply wpList_loadAll HO); exact rfl; exact rfl; (repeat (with_reducible (first | exact At.head _ | apply At.tail))); infer_instance; exact rfl; exact rfl; (simp only [Act.put, List.setIfInBounds_toArray, List.set_cons_succ, List.set_cons_zero])) | ((with_reducible apply wpList_loadOne HO); exact rfl; exact rfl; (repeat (with_reducible (first | exact At.head _ | apply At.tail))); exact rfl; infer_instance; exact rfl; (simp only [Act.put, List.setIfInBounds_toArray, List.set_cons_succ, List.set_cons_zero]))) | ((with_reducible apply wpList_storeAll HO); exact rfl; exact rfl; exact rfl; (repeat (with_reducible (first | exact At.head _ | apply At.tail))); infer_instance; exact rfl; exact rfl; exact rfl; exact rfl; clear HO; intro w HO; (simp only [Act.put])) | (first | ((with_reducible apply wpList_boxAgg _ HO rfl); exact rfl; exact rfl; exact rfl; clear HO; intro b6 w HO; (simp only [Act.put, List.setIfInBounds_toArray, List.set_cons_succ, List.set_cons_zero])) | ((with_reducible apply wpList_allocAgg _ HO rfl); exact rfl; infer_instance; exact rfl; clear HO; intro b6 w HO; (simp only [Act.put, List.setIfInBounds_toArray, List.set_cons_succ, List.set_cons_zero]))) | (go_at_call 13; go_must ((with_reducible refine (OC.out _ HO.grown).mono ?_); rintro e w ⟨rfl, hb⟩; replace HO := HO.call hb; clear hb)) | (go_at_call 16; go_must ((with_reducible refine (ORj _ HO.grown).mono ?_); rintro e w ⟨rfl, hb⟩; replace HO := HO.call hb; clear hb)))
        replace HO := HO.tail
        go_roundw
        case rel => exact ⟨j + 1, by omega, by go_num, hst.out.symm, HO⟩
        case measure => simp [intOf] <;> omega
    · obtain rfl : j = S.L.length := by omega
      have hjI : ¬ ((S.L.length : Int) + 1 ≤ (S.L.length : Int)) := by omega
      rw [List.drop_length] at hf
      obtain rfl : 0 = g0 := hf
      clear HS HY OR
      go_wp2_with (first | go_big_skip | (go_at_call 13; go_must ((with_reducible refine (OC.out _ HO.grown).mono ?_); rintro e w ⟨rfl, hb⟩; replace HO := HO.call hb; clear hb)))
      go_ret
      exact ⟨rfl, HO.grown⟩

def zeroO : OrdS := ⟨0, [], [], 0, 0⟩
def nextRef (o : OrdS) : List UInt8 := joinL (splitB o.ref) (splitT o.ref + 1)
def nextR (L : List (OrdS × D6)) (id : Int) : OrdS × Int := match ordAt L id with
  | none => (zeroO, 4)
  | some x => if stateOf x.2 ≠ 3 ∧ stateOf x.2 ≠ 4 then (zeroO, 92) else if 9 ≤ splitT x.1.ref ∨ 16 < (nextRef x.1).length then (zeroO, 3) else
    if findL L (nextRef x.1) ≠ 0 then (zeroO, 62) else if 60 < L.length + 1 then (zeroO, 60) else (⟨(L.length : Int) + 1, nextRef x.1, x.1.sku, x.1.qty, x.1.amt⟩, 0)
def refsOk (L : List (OrdS × D6)) : Prop := ∀ x ∈ L, x.1.ref.length ≤ 16
theorem refsOk_of {L : List (OrdS × D6)} (h : ∀ x ∈ L, ordE x.1 = 0) : refsOk L := fun x hx => by
  have := ordCheck_ok (h x hx)
  omega

set_option maxHeartbeats 16000000 in
set_option maxRecDepth 100000 in
theorem next_any {w : World} {a : CoA} {S : CoS} {i : InA} {A : InS} (h : CoAt w a S i A) (hl : S.L.length ≤ 60) (hr : refsOk S.L) {id : Int} (hi : inI id = true) : Calls Tryd.prog 22 #[.pointer (some ⟨a.c, 0, none⟩), .int .i64 id] w fun e w' => e = .returned (.tuple #[ordV (nextR S.L id).1, .int .i64 (nextR S.L id).2]) ∧ Below w.heap.size w w' := by
  have HO := Own.start w
  have OC := fun w' (hb : Below w.heap.size w w') => coOrders_any (h.below hb)
  have OR := fun w' (hb : Below w.heap.size w w') => coOrder_any (h.below hb) hi
  have FD := fun ref w' (hb : Below w.heap.size w w') => find_any (h.below hb) hl ref
  clear h
  rcases hx : ordAt S.L id with _ | y
  · rw [hx] at OR
    simp only [ordR, noSaga] at OR
    rw [show nextR S.L id = (zeroO, 4) by unfold nextR; rw [hx]]
    clear hx
    go_enter Tryd.func22, Tryd.ntmps22
    go_wp2_with (first | go_big_skip | (first | go_big_skip | ((with_reducible apply wpList_loadAll HO); exact rfl; exact rfl; (repeat (with_reducible (first | exact At.head _ | apply At.tail))); infer_instance; exact rfl; exact rfl; (simp only [Act.put, List.setIfInBounds_toArray, List.set_cons_succ, List.set_cons_zero])) | ((with_reducible apply wpList_loadOne HO); exact rfl; exact rfl; (repeat (with_reducible (first | exact At.head _ | apply At.tail))); exact rfl; infer_instance; exact rfl; (simp only [Act.put, List.setIfInBounds_toArray, List.set_cons_succ, List.set_cons_zero]))) | ((with_reducible apply wpList_storeAll HO); exact rfl; exact rfl; exact rfl; (repeat (with_reducible (first | exact At.head _ | apply At.tail))); infer_instance; exact rfl; exact rfl; exact rfl; exact rfl; clear HO; intro w HO; (simp only [Act.put])) | (first | ((with_reducible apply wpList_boxAgg _ HO rfl); exact rfl; exact rfl; exact rfl; clear HO; intro b6 w HO; (simp only [Act.put, List.setIfInBounds_toArray, List.set_cons_succ, List.set_cons_zero])) | ((with_reducible apply wpList_allocAgg _ HO rfl); exact rfl; infer_instance; exact rfl; clear HO; intro b6 w HO; (simp only [Act.put, List.setIfInBounds_toArray, List.set_cons_succ, List.set_cons_zero]))) | (go_at_call 16; go_must ((with_reducible refine (OR _ HO.grown).mono ?_); rintro e w ⟨rfl, hb⟩; replace HO := HO.call hb; clear hb)))
    refine bodyPost_ret (results_box HO rfl rfl (by (repeat (with_reducible (first | exact At.head _ | apply At.tail)))) inferInstance rfl rfl) rfl ?_
    exact ⟨rfl, HO.grown⟩
  obtain ⟨o, s⟩ := y
  have hro : o.ref.length ≤ 16 := by
    obtain ⟨j, hj, _, hy⟩ := ordAt_some hx
    have := hr _ (List.getElem_mem hj)
    rw [← hy] at this
    exact this
  rw [hx] at OR
  simp only [ordR, sagaV] at OR
  have ST := fun w => state_any o s w
  unfold sagaV at ST
  have SP := fun w => split_any o.ref (by unfold maxLen; omega) w
  have ht := splitT_le o.ref
  have hb := splitB_len o.ref
  have JN := fun w => join_any (splitB o.ref) (t := splitT o.ref + 1) (by omega) (by omega) (by omega) w
  have HN := Lib.hid (show nextR S.L id = if stateOf s ≠ 3 ∧ stateOf s ≠ 4 then (zeroO, 92) else if 9 ≤ splitT o.ref ∨ 16 < (nextRef o).length then (zeroO, 3) else if findL S.L (nextRef o) ≠ 0 then (zeroO, 62) else if 60 < S.L.length + 1 then (zeroO, 60) else (⟨(S.L.length : Int) + 1, nextRef o, o.sku, o.qty, o.amt⟩, 0) by unfold nextR; rw [hx]; first | done | rfl)
  have FN := FD (nextRef o)
  change ∀ w, Calls Tryd.prog 41 _ w fun e w' => e = .returned (.string ⟨(nextRef o).toArray⟩) ∧ Below w.heap.size w w' at JN
  have hnl : (nextRef o).length ≤ 20 := by
    unfold nextRef joinL
    split
    · omega
    · simp; omega
  generalize nextR S.L id = nr at *
  generalize nextRef o = nx at *
  generalize stateOf s = ss at *
  generalize splitT o.ref = tt at *
  generalize splitB o.ref = bb at *
  generalize findL S.L nx = fd at *
  have e1 : (((tt + 1 : Nat) : Int)) = (tt : Int) + 1 := by omega
  rw [e1] at JN
  clear hx hr hi FD hro hb e1
  by_cases c1 : ss ≠ 3 ∧ ss ≠ 4
  · rw [if_pos c1] at HN
    obtain rfl := HN.out
    have d1 : (ss != 3) = true := by simpa using c1.1
    have d2 : (ss != 4) = true := by simpa using c1.2
    go_enter Tryd.func22, Tryd.ntmps22
    go_wp2_with (first | go_big_skip | (first | go_big_skip | ((with_reducible apply wpList_loadAll HO); exact rfl; exact rfl; (repeat (with_reducible (first | exact At.head _ | apply At.tail))); infer_instance; exact rfl; exact rfl; (simp only [Act.put, List.setIfInBounds_toArray, List.set_cons_succ, List.set_cons_zero])) | ((with_reducible apply wpList_loadOne HO); exact rfl; exact rfl; (repeat (with_reducible (first | exact At.head _ | apply At.tail))); exact rfl; infer_instance; exact rfl; (simp only [Act.put, List.setIfInBounds_toArray, List.set_cons_succ, List.set_cons_zero]))) | ((with_reducible apply wpList_storeAll HO); exact rfl; exact rfl; exact rfl; (repeat (with_reducible (first | exact At.head _ | apply At.tail))); infer_instance; exact rfl; exact rfl; exact rfl; exact rfl; clear HO; intro w HO; (simp only [Act.put])) | (first | ((with_reducible apply wpList_boxAgg _ HO rfl); exact rfl; exact rfl; exact rfl; clear HO; intro b6 w HO; (simp only [Act.put, List.setIfInBounds_toArray, List.set_cons_succ, List.set_cons_zero])) | ((with_reducible apply wpList_allocAgg _ HO rfl); exact rfl; infer_instance; exact rfl; clear HO; intro b6 w HO; (simp only [Act.put, List.setIfInBounds_toArray, List.set_cons_succ, List.set_cons_zero]))) | (go_at_call 16; go_must ((with_reducible refine (OR _ HO.grown).mono ?_); rintro e w ⟨rfl, hb⟩; replace HO := HO.call hb; clear hb)) | (go_at_call 19; go_must ((with_reducible refine (ST _).mono ?_); rintro e w ⟨rfl, hb⟩; replace HO := HO.call hb; clear hb)))
    refine bodyPost_ret (results_box HO rfl rfl (by (repeat (with_reducible (first | exact At.head _ | apply At.tail)))) inferInstance rfl rfl) rfl ?_
    exact ⟨rfl, HO.grown⟩
  rw [if_neg c1] at HN
  have c1' : ss = 3 ∨ ss = 4 := by omega
  clear c1
  rcases c1' with rfl | rfl
  all_goals
    by_cases c2 : 9 ≤ tt ∨ 16 < nx.length
    · rw [if_pos c2] at HN
      obtain rfl := HN.out
      by_cases c3 : 9 ≤ tt
      · have d3 : decide ((9 : Int) ≤ (tt : Int)) = true := decide_eq_true (by omega)
        clear c2
        go_enter Tryd.func22, Tryd.ntmps22
        go_wp2_with (first | go_big_skip | (first | go_big_skip | ((with_reducible apply wpList_loadAll HO); exact rfl; exact rfl; (repeat (with_reducible (first | exact At.head _ | apply At.tail))); infer_instance; exact rfl; exact rfl; (simp only [Act.put, List.setIfInBounds_toArray, List.set_cons_succ, List.set_cons_zero])) | ((with_reducible apply wpList_loadOne HO); exact rfl; exact rfl; (repeat (with_reducible (first | exact At.head _ | apply At.tail))); exact rfl; infer_instance; exact rfl; (simp only [Act.put, List.setIfInBounds_toArray, List.set_cons_succ, List.set_cons_zero]))) | ((with_reducible apply wpList_storeAll HO); exact rfl; exact rfl; exact rfl; (repeat (with_reducible (first | exact At.head _ | apply At.tail))); infer_instance; exact rfl; exact rfl; exact rfl; exact rfl; clear HO; intro w HO; (simp only [Act.put])) | ((with_reducible apply wpList_storeOne HO); exact rfl; exact rfl; (first | (simp [Act.eval]; rfl) | exact rfl); exact rfl; (repeat (with_reducible (first | exact At.head _ | apply At.tail))); infer_instance; exact (by simp); (simp only [List.set_cons_succ, List.set_cons_zero]; rfl); exact rfl; clear HO; intro w HO; (simp only [Act.put])) | ((with_reducible apply wpList_loadPart HO); exact rfl; exact rfl; (repeat (with_reducible (first | exact At.head _ | apply At.tail))); infer_instance; exact (Nat.le_of_ble_eq_true rfl); (simp only [List.drop_zero, List.take_succ_cons, List.take_zero]; rfl); exact rfl; (simp only [Act.put, List.setIfInBounds_toArray, List.set_cons_succ, List.set_cons_zero])) | (first | ((with_reducible apply wpList_boxAgg _ HO rfl); exact rfl; exact rfl; exact rfl; clear HO; intro b6 w HO; (simp only [Act.put, List.setIfInBounds_toArray, List.set_cons_succ, List.set_cons_zero])) | ((with_reducible apply wpList_allocAgg _ HO rfl); exact rfl; infer_instance; exact rfl; clear HO; intro b6 w HO; (simp only [Act.put, List.setIfInBounds_toArray, List.set_cons_succ, List.set_cons_zero]))) | (go_at_call 16; go_must ((with_reducible refine (OR _ HO.grown).mono ?_); rintro e w ⟨rfl, hb⟩; replace HO := HO.call hb; clear hb)) | (go_at_call 13; go_must ((with_reducible refine (OC _ HO.grown).mono ?_); rintro e w ⟨rfl, hb⟩; replace HO := HO.call hb; clear hb)) | (go_at_call 19; go_must ((with_reducible refine (ST _).mono ?_); rintro e w ⟨rfl, hb⟩; replace HO := HO.call hb; clear hb)) | (go_at_call 39; go_must ((with_reducible refine (SP _).mono ?_); rintro e w ⟨rfl, hb⟩; replace HO := HO.call hb; clear hb)) | (go_at_call 41; go_must ((with_reducible refine (JN _).mono ?_); rintro e w ⟨rfl, hb⟩; replace HO := HO.call hb; clear hb)))
        refine bodyPost_ret (results_box HO rfl rfl (by (repeat (with_reducible (first | exact At.head _ | apply At.tail)))) inferInstance rfl rfl) rfl ?_
        exact ⟨rfl, HO.grown⟩
      · have d3 : decide ((9 : Int) ≤ (tt : Int)) = false := decide_eq_false (by omega)
        have d4 : decide ((16 : Int) < (nx.length : Int)) = true := decide_eq_true (by omega)
        clear c2
        go_enter Tryd.func22, Tryd.ntmps22
        go_wp2_with (first | go_big_skip | (first | go_big_skip | ((with_reducible apply wpList_loadAll HO); exact rfl; exact rfl; (repeat (with_reducible (first | exact At.head _ | apply At.tail))); infer_instance; exact rfl; exact rfl; (simp only [Act.put, List.setIfInBounds_toArray, List.set_cons_succ, List.set_cons_zero])) | ((with_reducible apply wpList_loadOne HO); exact rfl; exact rfl; (repeat (with_reducible (first | exact At.head _ | apply At.tail))); exact rfl; infer_instance; exact rfl; (simp only [Act.put, List.setIfInBounds_toArray, List.set_cons_succ, List.set_cons_zero]))) | ((with_reducible apply wpList_storeAll HO); exact rfl; exact rfl; exact rfl; (repeat (with_reducible (first | exact At.head _ | apply At.tail))); infer_instance; exact rfl; exact rfl; exact rfl; exact rfl; clear HO; intro w HO; (simp only [Act.put])) | ((with_reducible apply wpList_storeOne HO); exact rfl; exact rfl; (first | (simp [Act.eval]; rfl) | exact rfl); exact rfl; (repeat (with_reducible (first | exact At.head _ | apply At.tail))); infer_instance; exact (by simp); (simp only [List.set_cons_succ, List.set_cons_zero]; rfl); exact rfl; clear HO; intro w HO; (simp only [Act.put])) | ((with_reducible apply wpList_loadPart HO); exact rfl; exact rfl; (repeat (with_reducible (first | exact At.head _ | apply At.tail))); infer_instance; exact (Nat.le_of_ble_eq_true rfl); (simp only [List.drop_zero, List.take_succ_cons, List.take_zero]; rfl); exact rfl; (simp only [Act.put, List.setIfInBounds_toArray, List.set_cons_succ, List.set_cons_zero])) | (first | ((with_reducible apply wpList_boxAgg _ HO rfl); exact rfl; exact rfl; exact rfl; clear HO; intro b6 w HO; (simp only [Act.put, List.setIfInBounds_toArray, List.set_cons_succ, List.set_cons_zero])) | ((with_reducible apply wpList_allocAgg _ HO rfl); exact rfl; infer_instance; exact rfl; clear HO; intro b6 w HO; (simp only [Act.put, List.setIfInBounds_toArray, List.set_cons_succ, List.set_cons_zero]))) | (go_at_call 16; go_must ((with_reducible refine (OR _ HO.grown).mono ?_); rintro e w ⟨rfl, hb⟩; replace HO := HO.call hb; clear hb)) | (go_at_call 13; go_must ((with_reducible refine (OC _ HO.grown).mono ?_); rintro e w ⟨rfl, hb⟩; replace HO := HO.call hb; clear hb)) | (go_at_call 19; go_must ((with_reducible refine (ST _).mono ?_); rintro e w ⟨rfl, hb⟩; replace HO := HO.call hb; clear hb)) | (go_at_call 39; go_must ((with_reducible refine (SP _).mono ?_); rintro e w ⟨rfl, hb⟩; replace HO := HO.call hb; clear hb)) | (go_at_call 41; go_must ((with_reducible refine (JN _).mono ?_); rintro e w ⟨rfl, hb⟩; replace HO := HO.call hb; clear hb)))
        refine bodyPost_ret (results_box HO rfl rfl (by (repeat (with_reducible (first | exact At.head _ | apply At.tail)))) inferInstance rfl rfl) rfl ?_
        exact ⟨rfl, HO.grown⟩
    rw [if_neg c2] at HN
    have d3 : decide ((9 : Int) ≤ (tt : Int)) = false := decide_eq_false (by omega)
    have d4 : decide ((16 : Int) < (nx.length : Int)) = false := decide_eq_false (by omega)
    clear c2
    by_cases c5 : fd ≠ 0
    · rw [if_pos c5] at HN
      obtain rfl := HN.out
      have d5 : ((fd : Int) != 0) = true := by rw [bne_iff_ne]; omega
      go_enter Tryd.func22, Tryd.ntmps22
      go_wp2_with (first | go_big_skip | (first | go_big_skip | ((with_reducible apply wpList_loadAll HO); exact rfl; exact rfl; (repeat (with_reducible (first | exact At.head _ | apply At.tail))); infer_instance; exact rfl; exact rfl; (simp only [Act.put, List.setIfInBounds_toArray, List.set_cons_succ, List.set_cons_zero])) | ((with_reducible apply wpList_loadOne HO); exact rfl; exact rfl; (repeat (with_reducible (first | exact At.head _ | apply At.tail))); exact rfl; infer_instance; exact rfl; (simp only [Act.put, List.setIfInBounds_toArray, List.set_cons_succ, List.set_cons_zero]))) | ((with_reducible apply wpList_storeAll HO); exact rfl; exact rfl; exact rfl; (repeat (with_reducible (first | exact At.head _ | apply At.tail))); infer_instance; exact rfl; exact rfl; exact rfl; exact rfl; clear HO; intro w HO; (simp only [Act.put])) | ((with_reducible apply wpList_storeOne HO); exact rfl; exact rfl; (first | (simp [Act.eval]; rfl) | exact rfl); exact rfl; (repeat (with_reducible (first | exact At.head _ | apply At.tail))); infer_instance; exact (by simp); (simp only [List.set_cons_succ, List.set_cons_zero]; rfl); exact rfl; clear HO; intro w HO; (simp only [Act.put])) | ((with_reducible apply wpList_loadPart HO); exact rfl; exact rfl; (repeat (with_reducible (first | exact At.head _ | apply At.tail))); infer_instance; exact (Nat.le_of_ble_eq_true rfl); (simp only [List.drop_zero, List.take_succ_cons, List.take_zero]; rfl); exact rfl; (simp only [Act.put, List.setIfInBounds_toArray, List.set_cons_succ, List.set_cons_zero])) | (first | ((with_reducible apply wpList_boxAgg _ HO rfl); exact rfl; exact rfl; exact rfl; clear HO; intro b6 w HO; (simp only [Act.put, List.setIfInBounds_toArray, List.set_cons_succ, List.set_cons_zero])) | ((with_reducible apply wpList_allocAgg _ HO rfl); exact rfl; infer_instance; exact rfl; clear HO; intro b6 w HO; (simp only [Act.put, List.setIfInBounds_toArray, List.set_cons_succ, List.set_cons_zero]))) | (go_at_call 16; go_must ((with_reducible refine (OR _ HO.grown).mono ?_); rintro e w ⟨rfl, hb⟩; replace HO := HO.call hb; clear hb)) | (go_at_call 13; go_must ((with_reducible refine (OC _ HO.grown).mono ?_); rintro e w ⟨rfl, hb⟩; replace HO := HO.call hb; clear hb)) | (go_at_call 19; go_must ((with_reducible refine (ST _).mono ?_); rintro e w ⟨rfl, hb⟩; replace HO := HO.call hb; clear hb)) | (go_at_call 39; go_must ((with_reducible refine (SP _).mono ?_); rintro e w ⟨rfl, hb⟩; replace HO := HO.call hb; clear hb)) | (go_at_call 41; go_must ((with_reducible refine (JN _).mono ?_); rintro e w ⟨rfl, hb⟩; replace HO := HO.call hb; clear hb)) | (go_at_call 40; go_must ((with_reducible refine (FN _ HO.grown).mono ?_); rintro e w ⟨rfl, hb⟩; replace HO := HO.call hb; clear hb)))
      refine bodyPost_ret (results_box HO rfl rfl (by (repeat (with_reducible (first | exact At.head _ | apply At.tail)))) inferInstance rfl rfl) rfl ?_
      exact ⟨rfl, HO.grown⟩
    rw [if_neg c5] at HN
    obtain rfl : fd = 0 := by omega
    by_cases c6 : 60 < S.L.length + 1
    · rw [if_pos c6] at HN
      obtain rfl := HN.out
      have d6 : (60 : Int) < (S.L.length : Int) + 1 := by omega
      go_enter Tryd.func22, Tryd.ntmps22
      go_wp2_with (first | go_big_skip | (first | go_big_skip | ((with_reducible apply wpList_loadAll HO); exact rfl; exact rfl; (repeat (with_reducible (first | exact At.head _ | apply At.tail))); infer_instance; exact rfl; exact rfl; (simp only [Act.put, List.setIfInBounds_toArray, List.set_cons_succ, List.set_cons_zero])) | ((with_reducible apply wpList_loadOne HO); exact rfl; exact rfl; (repeat (with_reducible (first | exact At.head _ | apply At.tail))); exact rfl; infer_instance; exact rfl; (simp only [Act.put, List.setIfInBounds_toArray, List.set_cons_succ, List.set_cons_zero]))) | ((with_reducible apply wpList_storeAll HO); exact rfl; exact rfl; exact rfl; (repeat (with_reducible (first | exact At.head _ | apply At.tail))); infer_instance; exact rfl; exact rfl; exact rfl; exact rfl; clear HO; intro w HO; (simp only [Act.put])) | ((with_reducible apply wpList_storeOne HO); exact rfl; exact rfl; (first | (simp [Act.eval]; rfl) | exact rfl); exact rfl; (repeat (with_reducible (first | exact At.head _ | apply At.tail))); infer_instance; exact (by simp); (simp only [List.set_cons_succ, List.set_cons_zero]; rfl); exact rfl; clear HO; intro w HO; (simp only [Act.put])) | ((with_reducible apply wpList_loadPart HO); exact rfl; exact rfl; (repeat (with_reducible (first | exact At.head _ | apply At.tail))); infer_instance; exact (Nat.le_of_ble_eq_true rfl); (simp only [List.drop_zero, List.take_succ_cons, List.take_zero]; rfl); exact rfl; (simp only [Act.put, List.setIfInBounds_toArray, List.set_cons_succ, List.set_cons_zero])) | (first | ((with_reducible apply wpList_boxAgg _ HO rfl); exact rfl; exact rfl; exact rfl; clear HO; intro b6 w HO; (simp only [Act.put, List.setIfInBounds_toArray, List.set_cons_succ, List.set_cons_zero])) | ((with_reducible apply wpList_allocAgg _ HO rfl); exact rfl; infer_instance; exact rfl; clear HO; intro b6 w HO; (simp only [Act.put, List.setIfInBounds_toArray, List.set_cons_succ, List.set_cons_zero]))) | (go_at_call 16; go_must ((with_reducible refine (OR _ HO.grown).mono ?_); rintro e w ⟨rfl, hb⟩; replace HO := HO.call hb; clear hb)) | (go_at_call 13; go_must ((with_reducible refine (OC _ HO.grown).mono ?_); rintro e w ⟨rfl, hb⟩; replace HO := HO.call hb; clear hb)) | (go_at_call 19; go_must ((with_reducible refine (ST _).mono ?_); rintro e w ⟨rfl, hb⟩; replace HO := HO.call hb; clear hb)) | (go_at_call 39; go_must ((with_reducible refine (SP _).mono ?_); rintro e w ⟨rfl, hb⟩; replace HO := HO.call hb; clear hb)) | (go_at_call 41; go_must ((with_reducible refine (JN _).mono ?_); rintro e w ⟨rfl, hb⟩; replace HO := HO.call hb; clear hb)) | (go_at_call 40; go_must ((with_reducible refine (FN _ HO.grown).mono ?_); rintro e w ⟨rfl, hb⟩; replace HO := HO.call hb; clear hb)))
      refine bodyPost_ret (results_box HO rfl rfl (by (repeat (with_reducible (first | exact At.head _ | apply At.tail)))) inferInstance rfl rfl) rfl ?_
      exact ⟨rfl, HO.grown⟩
    · rw [if_neg c6] at HN
      obtain rfl := HN.out
      have d6 : ¬ ((60 : Int) < (S.L.length : Int) + 1) := by omega
      go_enter Tryd.func22, Tryd.ntmps22
      go_wp2_with (first | go_big_skip | (first | go_big_skip | ((with_reducible apply wpList_loadAll HO); exact rfl; exact rfl; (repeat (with_reducible (first | exact At.head _ | apply At.tail))); infer_instance; exact rfl; exact rfl; (simp only [Act.put, List.setIfInBounds_toArray, List.set_cons_succ, List.set_cons_zero])) | ((with_reducible apply wpList_loadOne HO); exact rfl; exact rfl; (repeat (with_reducible (first | exact At.head _ | apply At.tail))); exact rfl; infer_instance; exact rfl; (simp only [Act.put, List.setIfInBounds_toArray, List.set_cons_succ, List.set_cons_zero]))) | ((with_reducible apply wpList_storeAll HO); exact rfl; exact rfl; exact rfl; (repeat (with_reducible (first | exact At.head _ | apply At.tail))); infer_instance; exact rfl; exact rfl; exact rfl; exact rfl; clear HO; intro w HO; (simp only [Act.put])) | ((with_reducible apply wpList_storeOne HO); exact rfl; exact rfl; (first | (simp [Act.eval]; rfl) | exact rfl); exact rfl; (repeat (with_reducible (first | exact At.head _ | apply At.tail))); infer_instance; exact (by simp); (simp only [List.set_cons_succ, List.set_cons_zero]; rfl); exact rfl; clear HO; intro w HO; (simp only [Act.put])) | ((with_reducible apply wpList_loadPart HO); exact rfl; exact rfl; (repeat (with_reducible (first | exact At.head _ | apply At.tail))); infer_instance; exact (Nat.le_of_ble_eq_true rfl); (simp only [List.drop_zero, List.take_succ_cons, List.take_zero]; rfl); exact rfl; (simp only [Act.put, List.setIfInBounds_toArray, List.set_cons_succ, List.set_cons_zero])) | (first | ((with_reducible apply wpList_boxAgg _ HO rfl); exact rfl; exact rfl; exact rfl; clear HO; intro b6 w HO; (simp only [Act.put, List.setIfInBounds_toArray, List.set_cons_succ, List.set_cons_zero])) | ((with_reducible apply wpList_allocAgg _ HO rfl); exact rfl; infer_instance; exact rfl; clear HO; intro b6 w HO; (simp only [Act.put, List.setIfInBounds_toArray, List.set_cons_succ, List.set_cons_zero]))) | (go_at_call 16; go_must ((with_reducible refine (OR _ HO.grown).mono ?_); rintro e w ⟨rfl, hb⟩; replace HO := HO.call hb; clear hb)) | (go_at_call 13; go_must ((with_reducible refine (OC _ HO.grown).mono ?_); rintro e w ⟨rfl, hb⟩; replace HO := HO.call hb; clear hb)) | (go_at_call 19; go_must ((with_reducible refine (ST _).mono ?_); rintro e w ⟨rfl, hb⟩; replace HO := HO.call hb; clear hb)) | (go_at_call 39; go_must ((with_reducible refine (SP _).mono ?_); rintro e w ⟨rfl, hb⟩; replace HO := HO.call hb; clear hb)) | (go_at_call 41; go_must ((with_reducible refine (JN _).mono ?_); rintro e w ⟨rfl, hb⟩; replace HO := HO.call hb; clear hb)) | (go_at_call 40; go_must ((with_reducible refine (FN _ HO.grown).mono ?_); rintro e w ⟨rfl, hb⟩; replace HO := HO.call hb; clear hb)))
      refine bodyPost_ret (results_box HO rfl rfl (by (repeat (with_reducible (first | exact At.head _ | apply At.tail)))) inferInstance rfl rfl) rfl ?_
      exact ⟨rfl, HO.grown⟩
end Go.Proofs.YtibabfedpdoofaaDoor
namespace Go.Proofs.YtibabfedpdoofaaDoor
open Go.RowKit Go.Own Go.Maps

theorem isL_cell' {w : World} {k n c : Nat} {q : Addr} {L : List (List Value)} (h : IsL w k (.slice (some q) n c) L) {j : Nat} (hj : j < L.length) : ∀ i u, L[j][i]? = some u → w.cell? ((q.add (j * k)).add i) = some u := by
  obtain ⟨b, cap, hb, _, _, hR⟩ := h.at (by omega)
  cases hb
  exact fun i u hu => hR.c j hj i u hu
def intC (n : Nat) : List Value := [.int .i64 (n : Int)]
theorem intC_len (l : List Nat) : ∀ x ∈ l.map intC, x.length = 1 := fun x hx => by
  obtain ⟨y, _, rfl⟩ := List.mem_map.1 hx
  rfl
def chainN (L : List (OrdS × D6)) (b : List UInt8) : Nat → List Nat
  | 0 => []
  | k + 1 => chainN L b k ++ (if findL L (joinL b (k + 1)) = 0 then [] else [findL L (joinL b (k + 1))])
def chainL (L : List (OrdS × D6)) (id : Int) : List Nat := match ordAt L id with
  | none => []
  | some x => chainN L (splitB x.1.ref) 9
theorem chainN_len (L : List (OrdS × D6)) (b : List UInt8) : ∀ k, (chainN L b k).length ≤ k
  | 0 => by simp [chainN]
  | k + 1 => by
    have := chainN_len L b k
    unfold chainN
    rw [List.length_append]
    split <;> simp <;> omega
theorem chainN_in (L : List (OrdS × D6)) (b : List UInt8) : ∀ k, ∀ n ∈ chainN L b k, 1 ≤ n ∧ n ≤ L.length
  | 0, n, h => by cases h
  | k + 1, n, h => by
    unfold chainN at h
    rcases List.mem_append.1 h with h | h
    · exact chainN_in L b k n h
    · split at h
      · cases h
      · obtain rfl := List.mem_singleton.1 h
        have := findL_le L (joinL b (k + 1))
        omega
theorem chainL_in {L : List (OrdS × D6)} {id : Int} : (chainL L id).length ≤ 9 ∧ ∀ n ∈ chainL L id, 1 ≤ n ∧ n ≤ L.length := by
  unfold chainL
  split
  · exact ⟨by simp, by simp⟩
  · exact ⟨chainN_len _ _ _, chainN_in _ _ _⟩

set_option maxHeartbeats 16000000 in
set_option maxRecDepth 100000 in
theorem chain_any {W : World} {a : CoA} {S : CoS} {i : InA} {A : InS} (h : CoAt W a S i A) (hl : S.L.length ≤ 60) (hr : refsOk S.L) {id : Int} (hi : inI id = true) : Calls Tryd.prog 18 #[.pointer (some ⟨a.c, 0, none⟩), .int .i64 id] W fun e w' => ∃ v, e = .returned v ∧ Own W w' [row 3 1 v ((chainL S.L id).map intC)] := by
  have HO := Own.start W
  have OR := fun w' (hb : Below W.heap.size W w') => coOrder_any (h.below hb) hi
  have FD := Lib.hid (fun ref w' (hb : Below W.heap.size W w') => find_any (h.below hb) hl ref)
  clear h
  rcases hx : ordAt S.L id with _ | y
  · rw [hx] at OR
    simp only [ordR, noSaga] at OR
    rw [show chainL S.L id = [] by unfold chainL; rw [hx]]
    clear hx
    go_enter Tryd.func18, Tryd.ntmps18
    go_wp2_with (first | go_big_skip | (first | go_big_skip | ((with_reducible apply wpList_loadAll HO); exact rfl; exact rfl; (repeat (with_reducible (first | exact At.head _ | apply At.tail))); infer_instance; exact rfl; exact rfl; (simp only [Act.put, List.setIfInBounds_toArray, List.set_cons_succ, List.set_cons_zero])) | ((with_reducible apply wpList_loadOne HO); exact rfl; exact rfl; (repeat (with_reducible (first | exact At.head _ | apply At.tail))); exact rfl; infer_instance; exact rfl; (simp only [Act.put, List.setIfInBounds_toArray, List.set_cons_succ, List.set_cons_zero]))) | ((with_reducible apply wpList_storeAll HO); exact rfl; exact rfl; exact rfl; (repeat (with_reducible (first | exact At.head _ | apply At.tail))); infer_instance; exact rfl; exact rfl; exact rfl; exact rfl; clear HO; intro w HO; (simp only [Act.put])) | (first | ((with_reducible apply wpList_boxAgg _ HO rfl); exact rfl; exact rfl; exact rfl; clear HO; intro b6 w HO; (simp only [Act.put, List.setIfInBounds_toArray, List.set_cons_succ, List.set_cons_zero])) | ((with_reducible apply wpList_allocAgg _ HO rfl); exact rfl; infer_instance; exact rfl; clear HO; intro b6 w HO; (simp only [Act.put, List.setIfInBounds_toArray, List.set_cons_succ, List.set_cons_zero]))) | (go_at_call 16; go_must ((with_reducible refine (OR _ HO.grown).mono ?_); rintro e w ⟨rfl, hb⟩; replace HO := HO.call hb; clear hb)))
    go_ret
    exact ⟨_, rfl, HO.tail.nil 3 1⟩
  obtain ⟨o, s⟩ := y
  have hro : o.ref.length ≤ 16 := by
    obtain ⟨j, hj, _, hy⟩ := ordAt_some hx
    have := hr _ (List.getElem_mem hj)
    rw [← hy] at this
    exact this
  rw [hx] at OR
  simp only [ordR, sagaV] at OR
  have SP := fun w => split_any o.ref (by unfold maxLen; omega) w
  have hb := splitB_len o.ref
  have JN := Lib.hid (fun (k : Nat) (hk : k < 9) w => (show Calls Tryd.prog 41 #[.string ⟨(splitB o.ref).toArray⟩, .int .i64 ((k : Int) + 1)] w fun e w' => e = .returned (.string ⟨(joinL (splitB o.ref) (k + 1)).toArray⟩) ∧ Below w.heap.size w w' from join_any (splitB o.ref) (t := k + 1) (by omega) (by omega) (by omega) w))
  rw [show chainL S.L id = chainN S.L (splitB o.ref) 9 by unfold chainL; rw [hx]; first | done | rfl]
  have HC := Lib.hid (fun k => show chainN S.L (splitB o.ref) (k + 1) = chainN S.L (splitB o.ref) k ++ (if findL S.L (joinL (splitB o.ref) (k + 1)) = 0 then [] else [findL S.L (joinL (splitB o.ref) (k + 1))]) from rfl)
  have HLn := Lib.hid (chainN_len S.L (splitB o.ref))
  generalize splitB o.ref = bb at *
  clear hx hr hi hro hb
  go_enter Tryd.func18, Tryd.ntmps18
  go_wp2_with (first | go_big_skip | (first | go_big_skip | ((with_reducible apply wpList_loadAll HO); exact rfl; exact rfl; (repeat (with_reducible (first | exact At.head _ | apply At.tail))); infer_instance; exact rfl; exact rfl; (simp only [Act.put, List.setIfInBounds_toArray, List.set_cons_succ, List.set_cons_zero])) | ((with_reducible apply wpList_loadOne HO); exact rfl; exact rfl; (repeat (with_reducible (first | exact At.head _ | apply At.tail))); exact rfl; infer_instance; exact rfl; (simp only [Act.put, List.setIfInBounds_toArray, List.set_cons_succ, List.set_cons_zero]))) | ((with_reducible apply wpList_storeAll HO); exact rfl; exact rfl; exact rfl; (repeat (with_reducible (first | exact At.head _ | apply At.tail))); infer_instance; exact rfl; exact rfl; exact rfl; exact rfl; clear HO; intro w HO; (simp only [Act.put])) | (first | ((with_reducible apply wpList_boxAgg _ HO rfl); exact rfl; exact rfl; exact rfl; clear HO; intro b6 w HO; (simp only [Act.put, List.setIfInBounds_toArray, List.set_cons_succ, List.set_cons_zero])) | ((with_reducible apply wpList_allocAgg _ HO rfl); exact rfl; infer_instance; exact rfl; clear HO; intro b6 w HO; (simp only [Act.put, List.setIfInBounds_toArray, List.set_cons_succ, List.set_cons_zero]))) | (go_at_call 16; go_must ((with_reducible refine (OR _ HO.grown).mono ?_); rintro e w ⟨rfl, hb⟩; replace HO := HO.call hb; clear hb)) | (go_at_call 39; go_must ((with_reducible refine (SP _).mono ?_); rintro e w ⟨rfl, hb⟩; replace HO := HO.call hb; clear hb)))
  replace HO := HO.tail.nil 3 1
  go_loopw [9, 10] (fun vl tv wr => ∃ k : Nat, k ≤ 9 ∧ tv = .int .i64 ((k : Int) + 1) ∧ Own W wr [row 3 1 vl ((chainN S.L bb k).map intC)]) (fun _ tv _ => 12 - (intOf tv).toNat)
  case atStart => exact ⟨0, by omega, rfl, HO⟩
  case round =>
    clear HO
    obtain ⟨k, hk, rfl, HO⟩ := hrel
    by_cases hk9 : k < 9
    · have hkI : (k : Int) + 1 ≤ 9 := by omega
      have JNk := fun w => JN.out k hk9 w
      have FDk := fun w hb => FD.out (joinL bb (k + 1)) w hb
      have HCk := HC.out k
      have hln := HLn.out k
      generalize hnx : chainN S.L bb (k + 1) = nx at *
      generalize chainN S.L bb k = ol at *
      generalize findL S.L (joinL bb (k + 1)) = fd at *
      generalize joinL bb (k + 1) = rf at *
      by_cases h0 : fd = 0
      · subst h0
        rw [if_pos rfl, List.append_nil] at HCk
        subst HCk
        replace hnx := Lib.hid hnx
        go_wp2_with (first | go_big_skip | (first | go_big_skip | ((with_reducible apply wpList_loadAll HO); exact rfl; exact rfl; (repeat (with_reducible (first | exact At.head _ | apply At.tail))); infer_instance; exact rfl; exact rfl; (simp only [Act.put, List.setIfInBounds_toArray, List.set_cons_succ, List.set_cons_zero])) | ((with_reducible apply wpList_loadOne HO); exact rfl; exact rfl; (repeat (with_reducible (first | exact At.head _ | apply At.tail))); exact rfl; infer_instance; exact rfl; (simp only [Act.put, List.setIfInBounds_toArray, List.set_cons_succ, List.set_cons_zero]))) | (go_at_call 41; go_must ((with_reducible refine (JNk _).mono ?_); rintro e w ⟨rfl, hb⟩; replace HO := HO.call hb; clear hb)) | (go_at_call 40; go_must ((with_reducible refine (FDk _ HO.grown).mono ?_); rintro e w ⟨rfl, hb⟩; replace HO := HO.call hb; clear hb)))
        go_roundw
        case rel => exact ⟨k + 1, by omega, by go_num, by rw [hnx.out]; exact HO⟩
        case measure => simp [intOf] <;> omega
      · rw [if_neg h0] at HCk
        have hd : ((fd : Int) != 0) = true := by rw [bne_iff_ne]; omega
        have hll : (ol.map intC).length + 1 ≤ 1000000 := by rw [List.length_map]; omega
        replace HCk := Lib.hid HCk
        replace hnx := Lib.hid hnx
        go_wp2_with (first | go_big_skip | (first | go_big_skip | ((with_reducible apply wpList_loadAll HO); exact rfl; exact rfl; (repeat (with_reducible (first | exact At.head _ | apply At.tail))); infer_instance; exact rfl; exact rfl; (simp only [Act.put, List.setIfInBounds_toArray, List.set_cons_succ, List.set_cons_zero])) | ((with_reducible apply wpList_loadOne HO); exact rfl; exact rfl; (repeat (with_reducible (first | exact At.head _ | apply At.tail))); exact rfl; infer_instance; exact rfl; (simp only [Act.put, List.setIfInBounds_toArray, List.set_cons_succ, List.set_cons_zero]))) | (first | ((with_reducible apply wpList_lit1 HO); exact rfl; infer_instance; infer_instance; exact rfl; exact rfl; exact (by decide); exact rfl; clear HO; intro bl w HO; (simp only [Act.put, List.setIfInBounds_toArray, List.set_cons_succ, List.set_cons_zero])) | ((with_reducible apply wpList_lit1c HO); exact rfl; infer_instance; infer_instance; (first | (simp [Act.eval]; rfl) | exact rfl); exact rfl; exact rfl; clear HO; intro bl w HO; (simp only [Act.put, List.setIfInBounds_toArray, List.set_cons_succ, List.set_cons_zero]))) | ((with_reducible apply wpList_push1 HO); exact rfl; infer_instance; infer_instance; (first | (simp [Act.eval]; rfl) | exact rfl); exact rfl; intro _; (repeat (with_reducible (first | exact At.head _ | apply At.tail))); exact rfl; exact rfl; (first | omega | (simp; omega)); decide; exact rfl; clear HO; intro v2 w HO hv2; (simp only [Act.put, List.setIfInBounds_toArray, List.set_cons_succ, List.set_cons_zero])) | (go_at_call 41; go_must ((with_reducible refine (JNk _).mono ?_); rintro e w ⟨rfl, hb⟩; replace HO := HO.call hb; clear hb)) | (go_at_call 40; go_must ((with_reducible refine (FDk _ HO.grown).mono ?_); rintro e w ⟨rfl, hb⟩; replace HO := HO.call hb; clear hb)))
        go_roundw
        case rel => exact ⟨k + 1, by omega, by go_num, by rw [hnx.out, HCk.out, List.map_append]; exact HO⟩
        case measure => simp [intOf] <;> omega
    · obtain rfl : k = 9 := by omega
      go_wp2_with fail
      go_ret
      exact ⟨_, rfl, HO⟩

def netOf (L : List (OrdS × D6)) (n : Nat) : Int := match ordAt L (n : Int) with
  | some x => netS x.1 x.2
  | none => 0
def chStep (L : List (OrdS × D6)) (s : Int × Bool) (n : Nat) : Int × Bool := if s.2 = true then addI s.1 (netOf L n) else s
def chFold (L : List (OrdS × D6)) (l : List Nat) : Int × Bool := l.foldl (chStep L) (0, decide (0 < l.length))
def chargedR (L : List (OrdS × D6)) (id : Int) : Int × Bool := if (chFold L (chainL L id)).2 = true then ((chFold L (chainL L id)).1, true) else (0, false)
theorem chFold_in (L : List (OrdS × D6)) : ∀ (l : List Nat) (s : Int × Bool), inI s.1 = true → inI (l.foldl (chStep L) s).1 = true
  | [], _, h => h
  | n :: l, s, h => chFold_in L l _ (by
    unfold chStep
    split
    · exact addI_in _ _
    · exact h)

set_option maxHeartbeats 16000000 in
set_option maxRecDepth 100000 in
theorem charged_again {W : World} {a : CoA} {S : CoS} {i : InA} {A : InS} (h : CoAt W a S i A) (hl : S.L.length ≤ 60) (ho : ∀ x ∈ S.L, ordE x.1 = 0) {id : Int} (hi : inI id = true) : Calls Tryd.prog 21 #[.pointer (some ⟨a.c, 0, none⟩), .int .i64 id] W fun e w' => e = .returned (.tuple #[.int .i64 (chargedR S.L id).1, .bool (chargedR S.L id).2]) ∧ Below W.heap.size W w' := by
  have HO := Own.start W
  have CH := fun w' (hb : Below W.heap.size W w') => chain_any (h.below hb) hl (refsOk_of ho) hi
  have OR := Lib.hid (fun (n : Nat) (hn : n ≤ 60) w' (hb : Below W.heap.size W w') => coOrder_any (h.below hb) (id := (n : Int)) (inI_iff.2 (by omega)))
  have HN := Lib.hid (fun (n : Nat) (h1 : 1 ≤ n) (h2 : n ≤ S.L.length) => show ∃ x, ordAt S.L (n : Int) = some x ∧ x ∈ S.L from ⟨S.L[n - 1], ordAt_yes (j := n - 1) (by omega) (by omega), List.getElem_mem _⟩)
  have HB := Lib.hid (fun x hx s => netS_bound (o := x) hx s)
  have hin := (chainL_in (L := S.L) (id := id)).2
  have hcl := (chainL_in (L := S.L) (id := id)).1
  have HR := Lib.hid (show chargedR S.L id = if (chFold S.L (chainL S.L id)).2 = true then ((chFold S.L (chainL S.L id)).1, true) else (0, false) from rfl)
  have HF := Lib.hid (show chFold S.L (chainL S.L id) = (chainL S.L id).foldl (chStep S.L) (0, decide (0 < (chainL S.L id).length)) from rfl)
  generalize chargedR S.L id = cr at *
  generalize chFold S.L (chainL S.L id) = cf at *
  generalize chainL S.L id = l at *
  clear h
  go_enter Tryd.func21, Tryd.ntmps21
  go_wp2_with (first | go_big_skip | (go_at_call 18; go_must ((with_reducible refine (CH _ HO.grown).mono ?_); rintro e w ⟨v7, rfl, HO1⟩; replace HO := HO.lift HO1; clear HO1; rw [List.append_nil] at HO; obtain ⟨⟨p7, c7, rfl⟩, -⟩ := HO.rowForm (.head _); rw [List.length_map] at HO ⊢)))
  have HS := Lib.hid (fun (j : Nat) (hj : j < l.length) => show (l.take (j + 1)).foldl (chStep S.L) (0, decide (0 < l.length)) = chStep S.L ((l.take j).foldl (chStep S.L) (0, decide (0 < l.length))) l[j] from by rw [List.take_succ_eq_append_getElem hj, List.foldl_append]; rfl)
  have HI := Lib.hid (fun (j : Nat) => chFold_in S.L (l.take j) (0, decide (0 < l.length)) rfl)
  have hd0 : decide ((0 : Int) < (l.length : Int)) = decide (0 < l.length) := by
    by_cases h : 0 < l.length
    · rw [decide_eq_true h, decide_eq_true (by omega)]
    · rw [decide_eq_false h, decide_eq_false (by omega)]
  go_loopw [7, 8, 21] (fun sv ov iv wr => ∃ (j : Nat) (s : Int × Bool), j ≤ l.length ∧ s = (l.take j).foldl (chStep S.L) (0, decide (0 < l.length)) ∧ sv = .int .i64 s.1 ∧ ov = .bool s.2 ∧ iv = .int .i64 (j : Int) ∧ Own W wr [row 3 1 (.slice p7 l.length c7) (l.map intC)]) (fun _ _ iv _ => l.length - (intOf iv).toNat)
  case atStart => exact ⟨0, _, by omega, rfl, rfl, by first | rfl | rw [hd0] | (rw [← hd0]; rfl), rfl, HO⟩
  case round =>
    clear HO
    obtain ⟨j, s, hj, hs, rfl, rfl, rfl, HO⟩ := hrel
    by_cases hjl : j < l.length
    · have hjI : (j : Int) < (l.length : Int) := by omega
      obtain ⟨q, rfl⟩ : ∃ q, p7 = some q := by
        obtain ⟨q, c', h⟩ := (HO.rowForm (v := .slice p7 l.length c7) (.head _)).2 (by rw [List.length_map]; omega)
        rw [List.length_map] at h
        cases h
        exact ⟨q, rfl⟩
      have RW := Lib.hid (fun (w' : World) (h1 : Own W w' [row 3 1 (.slice (some q) l.length c7) (l.map intC)]) => show w'.cell? (q.add j) = some (.int .i64 (l[j] : Int)) from by
        have h2 := isL_cell' (isL_of_owns (intC_len l) (h1.has _ List.mem_cons_self)) (j := j) (by simpa using hjl) 0 (.int .i64 (l[j] : Int)) (by simp [intC])
        rwa [Nat.mul_one, add0] at h2)
      have HSj := HS.out j hjl
      have HIj := HI.out j
      obtain ⟨n1, n2⟩ := hin _ (List.getElem_mem hjl)
      rw [← hs] at HSj HIj
      clear hs
      obtain ⟨sm, ok⟩ := s
      obtain ⟨x, hx, hxm⟩ := HN.out l[j] n1 n2
      have ORj := fun w' hb => OR.out l[j] (by omega) w' hb
      rw [hx] at ORj
      have hnb := HB.out _ (ho x hxm) x.2
      rw [show chStep S.L (sm, ok) l[j] = if ok = true then addI sm (netS x.1 x.2) else (sm, ok) by unfold chStep netOf; rw [hx]] at HSj
      generalize l[j] = n at *
      obtain ⟨o, d⟩ := x
      simp only [ordR, sagaV] at ORj
      have NT := fun w => sagaNet_any o d w
      simp only [sagaV] at NT
      simp only at HSj HIj hnb
      have hni : inI (netS o d) = true := inI_iff.2 (by omega)
      have AD := fun w => mAdd_any HIj hni w
      generalize netS o d = nv at *
      generalize haa : addI sm nv = aa at *
      obtain ⟨a1, a2⟩ := aa
      clear hx hxm hnb haa
      replace HSj := Lib.hid HSj
      cases ok with
      | true =>
        rw [if_pos rfl] at HSj
        go_wp2_with (first | go_big_skip | (first | go_big_skip | ((with_reducible apply wpList_loadAll HO); exact rfl; exact rfl; (repeat (with_reducible (first | exact At.head _ | apply At.tail))); infer_instance; exact rfl; exact rfl; (simp only [Act.put, List.setIfInBounds_toArray, List.set_cons_succ, List.set_cons_zero])) | ((with_reducible apply wpList_loadOne HO); exact rfl; exact rfl; (repeat (with_reducible (first | exact At.head _ | apply At.tail))); exact rfl; infer_instance; exact rfl; (simp only [Act.put, List.setIfInBounds_toArray, List.set_cons_succ, List.set_cons_zero]))) | ((with_reducible apply wpList_storeAll HO); exact rfl; exact rfl; exact rfl; (repeat (with_reducible (first | exact At.head _ | apply At.tail))); infer_instance; exact rfl; exact rfl; exact rfl; exact rfl; clear HO; intro w HO; (simp only [Act.put])) | (first | ((with_reducible apply wpList_boxAgg _ HO rfl); exact rfl; exact rfl; exact rfl; clear HO; intro b6 w HO; (simp only [Act.put, List.setIfInBounds_toArray, List.set_cons_succ, List.set_cons_zero])) | ((with_reducible apply wpList_allocAgg _ HO rfl); exact rfl; infer_instance; exact rfl; clear HO; intro b6 w HO; (simp only [Act.put, List.setIfInBounds_toArray, List.set_cons_succ, List.set_cons_zero]))) | ((with_reducible apply wpList_loadAt1 HO); exact rfl; exact rfl; exact (fun w' h1 => RW.out w' h1); infer_instance; exact rfl; (simp only [Act.put, List.setIfInBounds_toArray, List.set_cons_succ, List.set_cons_zero])) | (go_at_call 16; go_must ((with_reducible refine (ORj _ HO.grown).mono ?_); rintro e w ⟨rfl, hb⟩; replace HO := HO.call hb; clear hb)) | (go_at_call 20; go_must ((with_reducible refine (NT _).mono ?_); rintro e w ⟨rfl, hb⟩; replace HO := HO.call hb; clear hb)) | (go_at_call 43; go_must ((with_reducible refine (AD _).mono ?_); rintro e w ⟨rfl, hb⟩; replace HO := HO.call hb; clear hb)))
        replace HO := HO.tail
        go_roundw
        case rel => exact ⟨j + 1, (a1, a2), by omega, HSj.out.symm, rfl, rfl, by go_num, HO⟩
        case measure => simp [intOf] <;> omega
      | false =>
        rw [if_neg (by simp)] at HSj
        go_wp2_with (first | go_big_skip | (first | go_big_skip | ((with_reducible apply wpList_loadAll HO); exact rfl; exact rfl; (repeat (with_reducible (first | exact At.head _ | apply At.tail))); infer_instance; exact rfl; exact rfl; (simp only [Act.put, List.setIfInBounds_toArray, List.set_cons_succ, List.set_cons_zero])) | ((with_reducible apply wpList_loadOne HO); exact rfl; exact rfl; (repeat (with_reducible (first | exact At.head _ | apply At.tail))); exact rfl; infer_instance; exact rfl; (simp only [Act.put, List.setIfInBounds_toArray, List.set_cons_succ, List.set_cons_zero]))) | ((with_reducible apply wpList_storeAll HO); exact rfl; exact rfl; exact rfl; (repeat (with_reducible (first | exact At.head _ | apply At.tail))); infer_instance; exact rfl; exact rfl; exact rfl; exact rfl; clear HO; intro w HO; (simp only [Act.put])) | (first | ((with_reducible apply wpList_boxAgg _ HO rfl); exact rfl; exact rfl; exact rfl; clear HO; intro b6 w HO; (simp only [Act.put, List.setIfInBounds_toArray, List.set_cons_succ, List.set_cons_zero])) | ((with_reducible apply wpList_allocAgg _ HO rfl); exact rfl; infer_instance; exact rfl; clear HO; intro b6 w HO; (simp only [Act.put, List.setIfInBounds_toArray, List.set_cons_succ, List.set_cons_zero]))) | ((with_reducible apply wpList_loadAt1 HO); exact rfl; exact rfl; exact (fun w' h1 => RW.out w' h1); infer_instance; exact rfl; (simp only [Act.put, List.setIfInBounds_toArray, List.set_cons_succ, List.set_cons_zero])) | (go_at_call 16; go_must ((with_reducible refine (ORj _ HO.grown).mono ?_); rintro e w ⟨rfl, hb⟩; replace HO := HO.call hb; clear hb)) | (go_at_call 20; go_must ((with_reducible refine (NT _).mono ?_); rintro e w ⟨rfl, hb⟩; replace HO := HO.call hb; clear hb)) | (go_at_call 43; go_must ((with_reducible refine (AD _).mono ?_); rintro e w ⟨rfl, hb⟩; replace HO := HO.call hb; clear hb)))
        replace HO := HO.tail
        go_roundw
        case rel => exact ⟨j + 1, (sm, false), by omega, HSj.out.symm, rfl, rfl, by go_num, HO⟩
        case measure => simp [intOf] <;> omega
    · obtain rfl : j = l.length := by omega
      rw [List.take_length] at hs
      rw [← HF.out] at hs
      subst hs
      obtain ⟨sm, ok⟩ := s
      cases ok with
      | true =>
        rw [if_pos rfl] at HR
        obtain rfl := HR.out
        go_wp2_with fail
        go_ret2
        exact ⟨rfl, HO.grown⟩
      | false =>
        rw [if_neg (by simp)] at HR
        obtain rfl := HR.out
        go_wp2_with fail
        go_ret2
        exact ⟨rfl, HO.grown⟩
end Go.Proofs.YtibabfedpdoofaaDoor
namespace Go.Proofs.YtibabfedpdoofaaDoor
open Go.RowKit Go.Own Go.Maps

theorem findN_zero (ref : List UInt8) : ∀ (l : List (OrdS × D6)) (k : Nat), findN ref l k = 0 ↔ hasL l ref = false
  | [], k => by simp [findN, hasL]
  | x :: l, k => by
    have ih := findN_zero ref l (k + 1)
    unfold hasL at ih ⊢
    unfold findN
    split
    · rename_i h; simp [h]
    · rename_i h; simp only [List.any_cons, h, decide_false, Bool.false_or]; exact ih
theorem findL_zero {L : List (OrdS × D6)} {ref : List UInt8} : findL L ref = 0 ↔ hasL L ref = false := findN_zero ref L 0
end Go.Proofs.YtibabfedpdoofaaDoor
namespace Go.Proofs.YtibabfedpdoofaaDoor
open Go.RowKit Go.Own

/-- All that are come to, in the order in which the document's text finds them. -/
def RL : List D6 := [⟨1, 0, 0, 0, 0, 0, false⟩, ⟨2, 1, 0, 0, 0, 0, false⟩, ⟨3, 0, 0, 0, 0, 0, false⟩, ⟨4, 0, 0, 1, 0, 0, true⟩, ⟨2, 2, 1, 0, 0, 0, false⟩, ⟨2, 3, 0, 1, 0, 0, false⟩, ⟨2, 4, 0, 0, 1, 0, true⟩,
  ⟨4, 0, 0, 2, 0, 0, true⟩, ⟨2, 2, 2, 0, 0, 0, false⟩, ⟨2, 2, 3, 0, 1, 0, false⟩, ⟨2, 2, 4, 0, 0, 1, true⟩, ⟨2, 3, 0, 2, 0, 0, false⟩, ⟨2, 4, 0, 1, 2, 0, true⟩, ⟨2, 2, 3, 1, 2, 0, false⟩,
  ⟨2, 2, 4, 0, 1, 2, true⟩, ⟨2, 4, 0, 2, 2, 0, true⟩, ⟨2, 2, 3, 2, 2, 0, false⟩, ⟨2, 2, 4, 1, 2, 2, true⟩, ⟨2, 2, 4, 2, 2, 2, true⟩]
def getD (s : D6) (n : Nat) : Int := match n with
  | 0 => s.a
  | 1 => s.b
  | 2 => s.c
  | 3 => s.d
  | 4 => s.e
  | _ => s.f
def rk1 (x : Int) : Nat := if x = 0 then 0 else if x = 1 then 1 else 2
def rank (t : D6) : Nat := rk1 t.a + rk1 t.b + rk1 t.c + rk1 t.d + rk1 t.e + rk1 t.f
/-- The three ways on. -/
def ways (t : D6) : List (Option D6) := [stopOf t, replyOf t (waitsOf t).1 1, replyOf t (waitsOf t).1 2]
def vnext (s t : D6) : Option D6 :=
  let n := (waitsOf t).1.toNat
  let r := if getD s n = 4 then stopOf t else if getD s n = 3 then replyOf t (waitsOf t).1 2 else replyOf t (waitsOf t).1 1
  match r with
  | some u => if getD u n = getD s n then some u else none
  | none => none
def path (s : D6) : Nat → D6 → List D6
  | 0, t => [t]
  | k + 1, t => t :: (if t = s then [] else match vnext s t with
    | some u => path s k u
    | none => [])
def onPath (s t : D6) : Bool := decide (t ∈ path s 8 beginD)
theorem ways_ok : ∀ t ∈ RL, ∀ u ∈ ways t, ∀ v, u = some v → v ∈ RL ∧ rank t < rank v ∧ rank v ≤ 12 := by
  have h : (RL.all fun t => (ways t).all fun u => match u with
    | some v => decide (v ∈ RL) && decide (rank t < rank v) && decide (rank v ≤ 12)
    | none => true) = true := by decide +kernel
  intro t ht u hu v hv
  have h1 := List.all_eq_true.1 (List.all_eq_true.1 h t ht) u hu
  subst hv
  simpa [and_assoc] using h1
theorem start_ok : beginD ∈ RL ∧ ∀ s, onPath s beginD = true := by
  refine ⟨by decide +kernel, fun s => ?_⟩
  simp [onPath, path]
end Go.Proofs.YtibabfedpdoofaaDoor
namespace Go.Proofs.YtibabfedpdoofaaDoor
open Go.RowKit Go.Own Go.Maps

def ordB : List UInt8 := [111, 114, 100, 101, 114]
def ordK (k : Nat) : OrdS := ⟨(k : Int) + 1, joinL ordB (k + 1), [120], 1, 77⟩
def refsK (n : Nat) : List (List UInt8) := (List.range n).map (fun k => joinL ordB (k + 1))
def findRN (ref : List UInt8) : List (List UInt8) → Nat → Nat
  | [], _ => 0
  | x :: l, k => if x = ref then k + 1 else findRN ref l (k + 1)
theorem findN_refs (ref : List UInt8) : ∀ (l : List (OrdS × D6)) (k : Nat), findN ref l k = findRN ref (l.map (fun x => x.1.ref)) k
  | [], _ => rfl
  | x :: l, k => by
    unfold findN
    rw [List.map_cons]
    unfold findRN
    rw [findN_refs ref l (k + 1)]
structure IsOnce (L : List (OrdS × D6)) : Prop where
  ord : ∀ (k : Nat) (hk : k < L.length), L[k].1 = ordK k
  few : L.length ≤ 9
  rl : ∀ x ∈ L, x.2 ∈ RL
theorem IsOnce.refs {L : List (OrdS × D6)} (h : IsOnce L) : L.map (fun x => x.1.ref) = refsK L.length := by
  refine List.ext_getElem (by simp [refsK]) fun k h1 h2 => ?_
  have hk : k < L.length := by simpa using h1
  simp only [List.getElem_map, refsK, List.getElem_range]
  rw [h.ord k hk]
  rfl
theorem findK : ∀ n < 10, ∀ k < 10, findRN (joinL ordB (k + 1)) (refsK n) 0 = if k < n then k + 1 else 0 := by decide +kernel
theorem IsOnce.find {L : List (OrdS × D6)} (h : IsOnce L) {k : Nat} (hk : k < 10) : findL L (joinL ordB (k + 1)) = if k < L.length then k + 1 else 0 := by
  unfold findL
  rw [findN_refs, h.refs]
  have := h.few
  exact findK L.length (by omega) k hk
theorem splitK : ∀ k < 9, splitB (joinL ordB (k + 1)) = ordB ∧ splitT (joinL ordB (k + 1)) = k + 1 := by decide +kernel
theorem IsOnce.chainN {L : List (OrdS × D6)} (h : IsOnce L) : ∀ m ≤ 9, chainN L ordB m = List.range' 1 (min m L.length)
  | 0, _ => by simp [Go.Proofs.YtibabfedpdoofaaDoor.chainN]
  | m + 1, hm => by
    rw [Go.Proofs.YtibabfedpdoofaaDoor.chainN, h.chainN m (by omega), h.find (k := m) (by omega)]
    by_cases hl : m < L.length
    · rw [if_pos hl, if_neg (by omega), show min m L.length = m by omega, show min (m + 1) L.length = m + 1 by omega, List.range'_1_concat, Nat.add_comm 1 m]
    · rw [if_neg hl, if_pos rfl, List.append_nil, show min m L.length = L.length by omega, show min (m + 1) L.length = L.length by omega]
theorem IsOnce.chain {L : List (OrdS × D6)} (h : IsOnce L) {k : Nat} (hk : k < L.length) : chainL L ((k : Int) + 1) = List.range' 1 L.length := by
  have hf := h.few
  unfold chainL
  rw [ordAt_yes rfl hk]
  simp only
  rw [h.ord k hk, show (ordK k).ref = joinL ordB (k + 1) from rfl, (splitK k (by omega)).1, h.chainN 9 (by omega), show min 9 L.length = L.length by omega]
theorem end_net : ∀ d ∈ RL, stateOf d = 3 ∨ stateOf d = 4 → ¬ (d.b = 2 ∧ d.e ≠ 2) := by decide +kernel
theorem IsOnce.fold {L : List (OrdS × D6)} (h : IsOnce L) (he : ∀ (k : Nat) (hk : k < L.length), k + 1 < L.length → stateOf L[k].2 = 3 ∨ stateOf L[k].2 = 4) : ∀ m, m + 1 ≤ L.length → (List.range' 1 m).foldl (chStep L) (0, true) = (0, true)
  | 0, _ => rfl
  | m + 1, hm => by
    have hk : m < L.length := by omega
    rw [List.range'_1_concat, List.foldl_append, h.fold he m (by omega), Nat.add_comm 1 m]
    show chStep L (0, true) (m + 1) = (0, true)
    unfold chStep netOf
    rw [if_pos rfl, ordAt_yes (L := L) (id := ((m + 1 : Nat) : Int)) (j := m) (by omega) hk]
    simp only
    unfold netS
    rw [if_neg (end_net _ (h.rl _ (List.getElem_mem hk)) (he m hk (by omega)))]
    decide
theorem IsOnce.charged {L : List (OrdS × D6)} (h : IsOnce L) (he : ∀ (k : Nat) (hk : k < L.length), k + 1 < L.length → stateOf L[k].2 = 3 ∨ stateOf L[k].2 = 4) {n : Nat} (hn : L.length = n + 1) : chargedR L ((n : Int) + 1) = (netS L[n].1 L[n].2, true) := by
  have hk : n < L.length := by omega
  have hF : chFold L (List.range' 1 (n + 1)) = (netS L[n].1 L[n].2, true) := by
    unfold chFold
    rw [decide_eq_true (by simp), List.range'_1_concat, List.foldl_append, h.fold he n (by omega), Nat.add_comm 1 n]
    show chStep L (0, true) (n + 1) = _
    unfold chStep netOf
    rw [if_pos rfl, ordAt_yes (L := L) (id := ((n + 1 : Nat) : Int)) (j := n) (by omega) hk]
    simp only
    rw [h.ord n hk, show netS (ordK n) L[n].2 = if L[n].2.b = 2 ∧ L[n].2.e ≠ 2 then 77 else 0 from rfl]
    split <;> decide
  unfold chargedR
  rw [h.chain hk, show List.range' 1 L.length = List.range' 1 (n + 1) by rw [hn], hF, if_pos rfl]
theorem IsOnce.next {L : List (OrdS × D6)} (h : IsOnce L) {n : Nat} (hn : L.length = n + 1) : nextR L ((n : Int) + 1) = if stateOf (L[n]'(by omega)).2 ≠ 3 ∧ stateOf (L[n]'(by omega)).2 ≠ 4 then (zeroO, 92) else if n = 8 then (zeroO, 3) else (ordK (n + 1), 0) := by
  have hk : n < L.length := by omega
  have hf := h.few
  unfold nextR
  rw [ordAt_yes rfl hk]
  simp only
  have ho := h.ord n hk
  have hr : L[n].1.ref = joinL ordB (n + 1) := by rw [ho]; rfl
  have hnr : nextRef L[n].1 = joinL ordB (n + 1 + 1) := by
    unfold nextRef
    rw [hr, (splitK n (by omega)).1, (splitK n (by omega)).2]
  by_cases c1 : stateOf L[n].2 ≠ 3 ∧ stateOf L[n].2 ≠ 4
  · rw [if_pos c1, if_pos c1]
  rw [if_neg c1, if_neg c1, hr, (splitK n (by omega)).2, hnr]
  by_cases c2 : n = 8
  · rw [if_pos (.inl (by omega)), if_pos c2]
  have hlen : (joinL ordB (n + 1 + 1)).length ≤ 16 := by
    unfold joinL
    rw [if_neg (by omega)]
    simp [ordB]
  rw [if_neg (by omega), if_neg c2, h.find (k := n + 1) (by omega), if_neg (show ¬ n + 1 < L.length by omega), if_neg (by simp), if_neg (by omega)]
  rw [ho, hn]
  rfl
theorem IsOnce.first {L : List (OrdS × D6)} (h : IsOnce L) (hl : 2 ≤ L.length) (he : stateOf (L[0]'(by omega)).2 = 3 ∨ stateOf (L[0]'(by omega)).2 = 4) : nextR L 1 = (zeroO, 62) := by
  have hk : 0 < L.length := by omega
  unfold nextR
  rw [ordAt_yes (L := L) (id := 1) (j := 0) rfl hk]
  simp only
  have ho := h.ord 0 hk
  have hr : L[0].1.ref = joinL ordB (0 + 1) := by rw [ho]; rfl
  have hnr : nextRef L[0].1 = joinL ordB (1 + 1) := by
    unfold nextRef
    rw [hr, (splitK 0 (by omega)).1, (splitK 0 (by omega)).2]
  rw [if_neg (by omega), hr, (splitK 0 (by omega)).2, hnr, if_neg (by decide), h.find (k := 1) (by omega), if_pos (show 1 < L.length by omega), if_pos (by simp)]
theorem ordK_ok : ∀ k < 9, ordE (ordK k) = 0 := by decide +kernel
theorem IsOnce.place {L : List (OrdS × D6)} (h : IsOnce L) (hl : L.length < 9) : placeE L (ordK L.length) = 0 := by
  unfold placeE
  rw [if_neg (by rw [ordK_ok _ hl]; simp), if_neg, if_neg (by omega), if_neg (by simp [ordK])]
  have hz : findL L (ordK L.length).ref = 0 := by
    rw [show (ordK L.length).ref = joinL ordB (L.length + 1) from rfl, h.find (by omega), if_neg (by omega)]
  rw [findL_zero.1 hz]
  simp
theorem IsOnce.snoc {L : List (OrdS × D6)} (h : IsOnce L) (hl : L.length < 9) {d : D6} (hd : d ∈ RL) : IsOnce (L ++ [(ordK L.length, d)]) where
  ord k hk := by
    by_cases hkl : k < L.length
    · rw [List.getElem_append_left hkl]; exact h.ord k hkl
    · obtain rfl : k = L.length := by simp at hk; omega
      simp
  few := by simp; omega
  rl x hx := by
    rcases List.mem_append.1 hx with hx | hx
    · exact h.rl x hx
    · obtain rfl := List.mem_singleton.1 hx
      exact hd
end Go.Proofs.YtibabfedpdoofaaDoor
namespace Go.Proofs.YtibabfedpdoofaaDoor
open Go.RowKit Go.Own Go.Maps

theorem dec_no45 (u : Nat) : (45 : UInt8) ∉ Lib.decDigits u := fun h => by
  have := (dec_digit u 45 h).1
  revert this
  decide
theorem split45 : ∀ {a b c d : List UInt8}, (45 : UInt8) ∉ a → (45 : UInt8) ∉ c → a ++ 45 :: b = c ++ 45 :: d → a = c ∧ b = d
  | [], b, [], d, _, _, h => ⟨rfl, by simpa using h⟩
  | [], b, y :: c, d, _, h2, h => by
    simp only [List.nil_append, List.cons_append, List.cons.injEq] at h
    exact absurd (by rw [← h.1]; exact List.mem_cons_self) h2
  | x :: a, b, [], d, h1, _, h => by
    simp only [List.nil_append, List.cons_append, List.cons.injEq] at h
    exact absurd (by rw [h.1]; exact List.mem_cons_self) h1
  | x :: a, b, y :: c, d, h1, h2, h => by
    simp only [List.cons_append, List.cons.injEq] at h
    obtain ⟨h3, h4⟩ := split45 (fun h => h1 (List.mem_cons_of_mem _ h)) (fun h => h2 (List.mem_cons_of_mem _ h)) h.2
    exact ⟨by rw [h.1, h3], h4⟩
theorem bytes_ext {a b : ByteArray} (h : a = b) : a.data.toList = b.data.toList := by rw [h]
theorem putK_list (o d : Int) : (putK o d).data.toList = Lib.itoa o ++ 45 :: deedL d := by simp [putK]
theorem sidK_list (q o : Int) : (sidK q o).data.toList = 115 :: (Lib.itoa q ++ 45 :: Lib.itoa o) := by simp [sidK]
theorem itoa_nat {o : Int} (h : 0 ≤ o) : Lib.itoa o = Lib.decDigits o.toNat := by
  have := Lib.itoa_nonneg o.toNat
  rwa [Int.toNat_of_nonneg h] at this
theorem deedL_inj {d d' : Int} (h0 : 0 ≤ d) (h5 : d ≤ 5) (h0' : 0 ≤ d') (h5' : d' ≤ 5) (h : deedL d = deedL d') : d = d' := by
  have h1 := deedsF_word h0 h5
  rw [h, deedsF_word h0' h5'] at h1
  simpa using h1.symm
theorem putK_inj {o d o' d' : Int} (h1 : 0 ≤ o) (h1' : 0 ≤ o') (h0 : 0 ≤ d) (h5 : d ≤ 5) (h0' : 0 ≤ d') (h5' : d' ≤ 5) (h : putK o d = putK o' d') : o = o' ∧ d = d' := by
  have h2 := bytes_ext h
  rw [putK_list, putK_list, itoa_nat h1, itoa_nat h1'] at h2
  obtain ⟨h3, h4⟩ := split45 (dec_no45 _) (dec_no45 _) h2
  have := dec_inj h3
  exact ⟨by omega, deedL_inj h0 h5 h0' h5' h4⟩
theorem sidK_inj {q o q' o' : Int} (h1 : 0 ≤ q) (h1' : 0 ≤ q') (h2 : 0 ≤ o) (h2' : 0 ≤ o') (h : sidK q o = sidK q' o') : q = q' ∧ o = o' := by
  have h3 := bytes_ext h
  rw [sidK_list, sidK_list, itoa_nat h1, itoa_nat h1', itoa_nat h2, itoa_nat h2', List.cons.injEq] at h3
  obtain ⟨h4, h5⟩ := split45 (dec_no45 _) (dec_no45 _) h3.2
  have h6 := dec_inj h4
  have h7 := dec_inj h5
  exact ⟨by omega, by omega⟩
theorem put_ne_sid {o d q o' : Int} (h1 : 0 ≤ o) : putK o d ≠ sidK q o' := fun h => by
  have h2 := bytes_ext h
  rw [putK_list, sidK_list, itoa_nat h1] at h2
  rcases hd : Lib.decDigits o.toNat with _ | ⟨x, l⟩
  · exact dec_ne _ hd
  · rw [hd, List.cons_append, List.cons.injEq] at h2
    have := (dec_digit o.toNat x (by rw [hd]; exact List.mem_cons_self)).2
    rw [h2.1] at this
    revert this
    decide
theorem putK_ne (o d : Int) : (putK o d).size ≠ 0 := by
  unfold putK
  rw [ByteArray.size_append, ByteArray.size_append]
  show _ + 1 + _ ≠ 0
  omega
theorem sidK_ne (q o : Int) : (sidK q o).size ≠ 0 := by
  unfold sidK
  rw [ByteArray.size_append, ByteArray.size_append, ByteArray.size_append]
  show 1 + _ + 1 + _ ≠ 0
  omega
/-- A small posting of an id of its own is posted. -/
theorem delta_small {p : Pst} {b : Int} (h : mayPst p = true) (h2 : p.a ≤ b) (hb : 0 ≤ b) (n o : Int) : -b ≤ delta p n o ∧ delta p n o ≤ b := by
  have := mayPst_iff.1 h
  unfold delta
  repeat' split
  all_goals omega
theorem bal_small {b : Int} (hb : 0 ≤ b) (n o : Int) : ∀ {l : List Pst}, (∀ p ∈ l, mayPst p = true ∧ p.a ≤ b) → -(b * (l.length : Int)) ≤ bal l n o ∧ bal l n o ≤ b * (l.length : Int)
  | [], _ => by simp [bal]
  | p :: l, h => by
    have h1 := bal_small hb n o (fun q hq => h q (List.mem_cons_of_mem _ hq))
    have h2 := delta_small (h p List.mem_cons_self).1 (h p List.mem_cons_self).2 hb n o
    simp only [bal, List.length_cons]
    rw [show ((l.length + 1 : Nat) : Int) = (l.length : Int) + 1 by omega, Int.mul_add, Int.mul_one]
    omega
theorem post_new {P : List Pst} {p : Pst} (h : ∀ q ∈ P, mayPst q = true ∧ q.a ≤ 2199023255552) (hl : P.length ≤ 100000) (hm : mayPst p = true) (ha : p.a ≤ 2199023255552) (hn : ∀ q ∈ P, q.id ≠ p.id) : postL P p = P ++ [p] := by
  unfold postL
  rw [if_pos]
  have h1 : findP P p.id = none := by
    unfold findP
    rw [List.find?_eq_none]
    intro q hq
    simpa using hn q hq
  have hx := mayPst_iff.1 hm
  have hb := fun n o => bal_small (b := 2199023255552) (by decide) n o h
  have e : (2199023255552 : Int) * (P.length : Int) ≤ 219902325555200000 := by omega
  rw [hm, h1]
  simp only [fitsPst, Bool.and_eq_true, inI_iff, Option.isNone_none, true_and]
  have b1 := hb p.d 0
  have b2 := hb p.c 0
  have b3 := hb p.d p.o
  have b4 := hb p.c p.o
  omega
end Go.Proofs.YtibabfedpdoofaaDoor
namespace Go.Proofs.YtibabfedpdoofaaDoor
open Go.RowKit Go.Own Go.Maps

/-- The document posts without looking. -/
def rawReply (P : List Pst) (id d by' : Int) : List Pst := if 0 < by' then P ++ [⟨putK id d, id, 1, 0, by'⟩] else if by' < 0 then P ++ [⟨putK id d, id, 3, 1, -by'⟩] else P
def rawReplyS (S : CoS) (id d code : Int) : CoS := match ordAt S.L id with
  | none => S
  | some x => match replyOf x.2 d code with
    | none => S
    | some t => ⟨sagAt S.L id (x.1, t), rawReply S.P id d (netS x.1 t - netS x.1 x.2)⟩
def rawStmt (P : List Pst) (f : Int → Int) (q : Int) : Nat → List Pst
  | 0 => P
  | k + 1 => if f ((k : Int) + 1) = 0 then rawStmt P f q k else rawStmt P f q k ++ [stPst q ((k : Int) + 1) (f ((k : Int) + 1))]
def rawS (S : CoS) (A : InS) (x : EntS) : CoS := if x.k = 1 then { S with L := placeL S.L x.ord } else if x.k = 2 then { S with L := stopL S.L x.o } else if x.k = 3 then rawReplyS S x.o x.d x.c else
  if x.k = 4 then (if accE A x.p x.q x.rs = 0 then { S with P := rawStmt S.P (byI A (A.put x.p x.q x.rs)) x.q 60 } else S) else S

/-! What a saga keeps. -/
theorem onOf_keeps (s : D6) : (s.b ≠ 0 → (onOf s).b = s.b) ∧ (s.e ≠ 0 → (onOf s).e = s.e) ∧ ((onOf s).b = s.b ∨ (onOf s).b = 1) ∧ ((onOf s).e = s.e ∨ (onOf s).e = 1) := by
  unfold onOf
  repeat' split
  all_goals (refine ⟨fun h => ?_, fun h => ?_, ?_, ?_⟩ <;> first | rfl | exact .inl rfl | exact .inr rfl | (exfalso; simp_all; done))
theorem waits_at {s : D6} (h : (waitsOf s).2 = true) : ((waitsOf s).1 = 0 ∧ s.a = 1) ∨ ((waitsOf s).1 = 1 ∧ s.b = 1) ∨ ((waitsOf s).1 = 2 ∧ s.c = 1) ∨ ((waitsOf s).1 = 3 ∧ s.d = 1) ∨ ((waitsOf s).1 = 4 ∧ s.e = 1) ∨ ((waitsOf s).1 = 5 ∧ s.f = 1) := by
  unfold waitsOf at h ⊢
  repeat' split at h
  all_goals simp_all
theorem reply_shape {s t : D6} {d code : Int} (h : replyOf s d code = some t) : (s.b = 2 → t.b = 2) ∧ (s.e = 2 → t.e = 2) ∧ (d ≠ 1 → t.b = 2 → s.b = 2) ∧ (d ≠ 4 → t.e = 2 → s.e = 2) ∧ (d = 1 → s.b = 1) ∧ (d = 4 → s.e = 1) := by
  unfold replyOf at h
  split at h
  · rename_i h1
    obtain ⟨hw, hd, hc⟩ := h1
    obtain rfl := Option.some.inj h
    obtain ⟨k1, k2, k3, k4⟩ := onOf_keeps (setD s d (code + 1))
    have hx := waits_at hw
    rw [hd] at hx
    rcases hx with ⟨rfl, h1⟩ | ⟨rfl, h1⟩ | ⟨rfl, h1⟩ | ⟨rfl, h1⟩ | ⟨rfl, h1⟩ | ⟨rfl, h1⟩ <;> simp only [setD] at k1 k2 k3 k4 ⊢ <;> simp at k1 k2 k3 k4 ⊢ <;> refine ⟨?_, ?_, ?_⟩ <;> intros <;> first | omega | (refine ⟨?_, ?_⟩ <;> intros <;> omega) | (refine ⟨?_, ?_, ?_⟩ <;> intros <;> omega) | skip
  · cases h
theorem stop_shape {s t : D6} (h : stopOf s = some t) : (s.b = 2 → t.b = 2) ∧ (s.e = 2 → t.e = 2) := by
  unfold stopOf at h
  split at h
  · rename_i h1
    have hw : (waitsOf s).2 = true := by
      unfold stateOf at h1
      repeat' split at h1
      all_goals simp_all
    obtain rfl := Option.some.inj h
    obtain ⟨k1, k2, k3, k4⟩ := onOf_keeps { setD s (waitsOf s).1 4 with x := true }
    have hx := waits_at hw
    generalize (waitsOf s).1 = d at *
    rcases hx with ⟨rfl, h1⟩ | ⟨rfl, h1⟩ | ⟨rfl, h1⟩ | ⟨rfl, h1⟩ | ⟨rfl, h1⟩ | ⟨rfl, h1⟩ <;> simp only [setD] at k1 k2 k3 k4 ⊢ <;> simp at k1 k2 k3 k4 ⊢ <;> refine ⟨?_, ?_⟩ <;> intros <;> omega
  · cases h
theorem reply_nets {o : OrdS} {s t : D6} {d code : Int} (h : replyOf s d code = some t) (hn : netS o t - netS o s ≠ 0) : (d = 1 ∧ s.b = 1 ∧ t.b = 2) ∨ (d = 4 ∧ s.e = 1 ∧ t.e = 2) := by
  obtain ⟨h1, h2, h3, h4, h5, h6⟩ := reply_shape h
  by_cases d1 : d = 1
  · subst d1
    have := h5 rfl
    by_cases tb : t.b = 2
    · exact .inl ⟨rfl, this, tb⟩
    · exfalso; apply hn
      unfold netS
      rw [if_neg (fun h => tb h.1), if_neg (fun h => by omega)]; rfl
  · by_cases d4 : d = 4
    · subst d4
      have := h6 rfl
      by_cases te : t.e = 2
      · exact .inr ⟨rfl, this, te⟩
      · exfalso; apply hn
        unfold netS
        have e1 : (t.b = 2 ∧ t.e ≠ 2) ↔ (s.b = 2 ∧ s.e ≠ 2) := ⟨fun h => ⟨h3 (by decide) h.1, by omega⟩, fun h => ⟨h1 h.1, te⟩⟩
        by_cases hc : s.b = 2 ∧ s.e ≠ 2
        · rw [if_pos hc, if_pos (e1.2 hc)]; omega
        · rw [if_neg hc, if_neg (fun h => hc (e1.1 h))]; rfl
    · exfalso; apply hn
      unfold netS
      have e1 : (t.b = 2 ∧ t.e ≠ 2) ↔ (s.b = 2 ∧ s.e ≠ 2) := ⟨fun h => ⟨h3 d1 h.1, fun he => h.2 (h2 he)⟩, fun h => ⟨h1 h.1, fun he => h.2 (h4 d4 he)⟩⟩
      by_cases hc : s.b = 2 ∧ s.e ≠ 2
      · rw [if_pos hc, if_pos (e1.2 hc)]; omega
      · rw [if_neg hc, if_neg (fun h => hc (e1.1 h))]; rfl

/-! What is posted is new. -/
def smallOk (p : Pst) : Prop := mayPst p = true ∧ p.a ≤ 2199023255552
def srcOk (L : List (OrdS × D6)) (q0 : Int) (p : Pst) : Prop :=
  (∃ (j : Nat) (d : Int) (x : OrdS × D6), L[j]? = some x ∧ p.id = putK ((j : Int) + 1) d ∧ ((d = 1 ∧ x.2.b = 2) ∨ (d = 4 ∧ x.2.e = 2))) ∨ (∃ s o : Int, p.id = sidK s o ∧ 0 ≤ s ∧ s ≤ q0 ∧ 0 ≤ o)
structure CoInv (S : CoS) (A : InS) : Prop where
  ok : CoOk S
  inok : InOk A
  q0 : 0 ≤ A.q0
  small : ∀ p ∈ S.P, smallOk p
  src : ∀ p ∈ S.P, srcOk S.L A.q0 p
theorem coInv_new : CoInv ⟨[], []⟩ zeroI := ⟨coNew_ok, zeroI_ok, by decide, by simp, by simp⟩
theorem srcOk.mono {L M : List (OrdS × D6)} {q r : Int} {p : Pst} (h : srcOk L q p) (hq : q ≤ r) (hL : ∀ (j : Nat) x, L[j]? = some x → ∃ y, M[j]? = some y ∧ (x.2.b = 2 → y.2.b = 2) ∧ (x.2.e = 2 → y.2.e = 2)) : srcOk M r p := by
  rcases h with ⟨j, d, x, h1, h2, h3⟩ | ⟨s, o, h1, h2, h3, h4⟩
  · obtain ⟨y, g1, g2, g3⟩ := hL j x h1
    exact .inl ⟨j, d, y, g1, h2, by rcases h3 with ⟨a, b⟩ | ⟨a, b⟩; exact .inl ⟨a, g2 b⟩; exact .inr ⟨a, g3 b⟩⟩
  · exact .inr ⟨s, o, h1, h2, by omega, h4⟩
theorem place_keeps (L : List (OrdS × D6)) (o : OrdS) : ∀ (j : Nat) x, L[j]? = some x → ∃ y, (placeL L o)[j]? = some y ∧ (x.2.b = 2 → y.2.b = 2) ∧ (x.2.e = 2 → y.2.e = 2) := fun j x h => by
  refine ⟨x, ?_, id, id⟩
  unfold placeL
  split
  · rw [List.getElem?_append_left (List.getElem?_eq_some_iff.1 h).1]; exact h
  · exact h
theorem sagAt_keeps {L : List (OrdS × D6)} {id : Int} {x : OrdS × D6} {t : D6} (hx : ordAt L id = some x) (hb : x.2.b = 2 → t.b = 2) (he : x.2.e = 2 → t.e = 2) : ∀ (j : Nat) y, L[j]? = some y → ∃ z, (sagAt L id (x.1, t))[j]? = some z ∧ (y.2.b = 2 → z.2.b = 2) ∧ (y.2.e = 2 → z.2.e = 2) := fun j y h => by
  obtain ⟨i, hi, rfl, rfl⟩ := ordAt_some hx
  unfold sagAt
  rw [show ((i : Int) + 1 - 1).toNat = i by omega]
  by_cases hj : i = j
  · subst hj
    rw [List.getElem?_eq_getElem hi] at h
    obtain rfl := Option.some.inj h
    exact ⟨_, List.getElem?_set_self hi, hb, he⟩
  · exact ⟨y, by rw [List.getElem?_set_ne hj]; exact h, id, id⟩
theorem rawStmt_eq {P : List Pst} {f : Int → Int} {q : Int} (hs : ∀ p ∈ P, smallOk p) (hn : ∀ p ∈ P, ∀ o : Int, 0 ≤ o → p.id ≠ sidK q o) (hq : 0 ≤ q) (hf : ∀ o, -2199023255552 ≤ f o ∧ f o ≤ 2199023255552) (hl : P.length ≤ 99000) :
    ∀ k : Nat, k ≤ 60 → rawStmt P f q k = stmtP P f q k ∧ (∀ p ∈ stmtP P f q k, smallOk p ∧ (p ∈ P ∨ ∃ o : Int, p.id = sidK q o ∧ 0 ≤ o ∧ o ≤ (k : Int))) ∧ (stmtP P f q k).length ≤ P.length + k
  | 0, _ => ⟨rfl, fun p hp => ⟨hs p hp, .inl hp⟩, Nat.le_refl _⟩
  | k + 1, hk => by
    obtain ⟨h1, h2, h3⟩ := rawStmt_eq hs hn hq hf hl k (by omega)
    unfold rawStmt stmtP
    by_cases h0 : f ((k : Int) + 1) = 0
    · rw [if_pos h0, if_pos h0]
      exact ⟨h1, fun p hp => ⟨(h2 p hp).1, by rcases (h2 p hp).2 with h | ⟨o, a, b, c⟩; exact .inl h; exact .inr ⟨o, a, b, by omega⟩⟩, by omega⟩
    · rw [if_neg h0, if_neg h0, h1]
      have hb := hf ((k : Int) + 1)
      have hid : (stPst q ((k : Int) + 1) (f ((k : Int) + 1))).id = sidK q ((k : Int) + 1) := by unfold stPst; split <;> rfl
      have hm : smallOk (stPst q ((k : Int) + 1) (f ((k : Int) + 1))) := by
        unfold stPst
        split
        · exact ⟨mayPst_iff.2 ⟨sidK_ne _ _, by dsimp only; omega, by dsimp only; omega, by dsimp only; omega, by dsimp only; omega, by dsimp only; omega, by dsimp only; omega, by dsimp only; omega⟩, by dsimp only; omega⟩
        · exact ⟨mayPst_iff.2 ⟨sidK_ne _ _, by dsimp only; omega, by dsimp only; omega, by dsimp only; omega, by dsimp only; omega, by dsimp only; omega, by dsimp only; omega, by dsimp only; omega⟩, by dsimp only; omega⟩
      have hnew := post_new (P := stmtP P f q k) (p := stPst q ((k : Int) + 1) (f ((k : Int) + 1))) (fun p hp => (h2 p hp).1) (by omega) hm.1 hm.2 (fun p hp he => by
        rw [hid] at he
        rcases (h2 p hp).2 with h | ⟨o, a, b, c⟩
        · exact hn p h _ (by omega) he
        · rw [a] at he
          have := (sidK_inj hq hq b (by omega) he).2
          omega)
      rw [hnew]
      refine ⟨rfl, fun p hp => ?_, by simp; omega⟩
      rcases List.mem_append.1 hp with hp | hp
      · exact ⟨(h2 p hp).1, by rcases (h2 p hp).2 with h | ⟨o, a, b, c⟩; exact .inl h; exact .inr ⟨o, a, b, by omega⟩⟩
      · obtain rfl := List.mem_singleton.1 hp
        exact ⟨hm, .inr ⟨_, hid, by omega, by omega⟩⟩
theorem stmt_zero {P : List Pst} {f : Int → Int} {q : Int} (hf : ∀ o, f o = 0) : ∀ k : Nat, rawStmt P f q k = P ∧ stmtP P f q k = P
  | 0 => ⟨rfl, rfl⟩
  | k + 1 => by
    unfold rawStmt stmtP
    rw [if_pos (hf _), if_pos (hf _)]
    exact stmt_zero hf k
theorem byI_zero {A : InS} {p q : Int} {rs : List RowS} (hp : p ≠ 0) (o : Int) : byI A (A.put p q rs) o = 0 := by
  have h : ∀ d, partyOf d = 0 → rowOf (A.put p q rs) o d = rowOf A o d := fun d hd => by
    unfold rowOf
    rw [hd]
    have : (A.put p q rs).rows 0 = A.rows 0 := by
      show (A.put p q rs).r0 = A.r0
      unfold InS.put
      rw [if_neg hp]
      split <;> rfl
    rw [this]
  unfold byI netI
  rw [h 1 (by decide), h 4 (by decide)]
  omega
theorem byI_bound {A B : InS} (h : InOk A) (h2 : InOk B) (o : Int) : -2199023255552 ≤ byI A B o ∧ byI A B o ≤ 2199023255552 := by
  have h3 := netI_bound h o
  have h4 := netI_bound h2 o
  unfold byI
  omega

/-- What the document's core comes to is what the program's does. -/
theorem coInv_step {S : CoS} {A : InS} (h : CoInv S A) (hl : S.P.length ≤ 99000) (x : EntS) : rawS S A x = applyS S A x ∧ CoInv (applyS S A x) (applyI A x) := by
  have hok := (applyS_ok (A := A) h.ok x).1
  have hin := applyI_ok h.inok x
  unfold rawS applyS applyI at *
  by_cases k1 : x.k = 1
  · rw [if_pos k1] at hok
    rw [if_neg (by rw [k1]; simp)] at hin
    rw [if_pos k1, if_pos k1, if_neg (by rw [k1]; simp)]
    exact ⟨rfl, hok, hin, h.q0, h.small, fun p hp => (h.src p hp).mono (Int.le_refl _) (place_keeps _ _)⟩
  rw [if_neg k1] at hok
  rw [if_neg k1, if_neg k1]
  by_cases k2 : x.k = 2
  · rw [if_pos k2] at hok
    rw [if_neg (by rw [k2]; simp)] at hin
    rw [if_pos k2, if_pos k2, if_neg (by rw [k2]; simp)]
    refine ⟨rfl, hok, hin, h.q0, h.small, fun p hp => (h.src p hp).mono (Int.le_refl _) ?_⟩
    intro j y hy
    show ∃ z, (stopL S.L x.o)[j]? = some z ∧ _
    unfold stopL
    cases ho : ordAt S.L x.o with
    | none => exact ⟨y, hy, id, id⟩
    | some z =>
      simp only
      cases hs : stopOf z.2 with
      | none => exact ⟨y, hy, id, id⟩
      | some t => exact sagAt_keeps ho (stop_shape hs).1 (stop_shape hs).2 j y hy
  rw [if_neg k2] at hok
  rw [if_neg k2, if_neg k2]
  by_cases k3 : x.k = 3
  · rw [if_pos k3] at hok
    rw [if_neg (by rw [k3]; simp)] at hin
    rw [if_pos k3, if_pos k3, if_neg (by rw [k3]; simp)]
    unfold rawReplyS
    unfold replyS at hok ⊢
    cases ho : ordAt S.L x.o with
    | none => exact ⟨rfl, h⟩
    | some y =>
      rw [ho] at hok
      simp only at hok ⊢
      cases hr : replyOf y.2 x.d x.c with
      | none => exact ⟨rfl, h⟩
      | some t =>
        rw [hr] at hok
        simp only at hok ⊢
        obtain ⟨j, hj, hid, rfl⟩ := ordAt_some ho
        obtain ⟨s1, s2, _⟩ := reply_shape hr
        have hdd := replyOf_deed hr
        have hkeep := sagAt_keeps (t := t) ho s1 s2
        have hnow : (sagAt S.L x.o (S.L[j].1, t))[j]? = some (S.L[j].1, t) := by
          unfold sagAt
          rw [hid, show ((j : Int) + 1 - 1).toNat = j by omega, List.getElem?_set_self hj]
        have b1 := netS_bound (h.ok.ord _ (List.getElem_mem hj)) t
        have b2 := netS_bound (h.ok.ord _ (List.getElem_mem hj)) S.L[j].2
        have hsrc : ∀ p ∈ S.P, srcOk (sagAt S.L x.o (S.L[j].1, t)) A.q0 p := fun p hp => (h.src p hp).mono (Int.le_refl _) hkeep
        by_cases hz : netS S.L[j].1 t - netS S.L[j].1 S.L[j].2 = 0
        · have e1 : ∀ P, rawReply P x.o x.d (netS S.L[j].1 t - netS S.L[j].1 S.L[j].2) = P := fun P => by rw [hz]; rfl
          have e2 : ∀ P, replyP P x.o x.d (netS S.L[j].1 t - netS S.L[j].1 S.L[j].2) = P := fun P => by rw [hz]; rfl
          rw [e2] at hok
          rw [e1, e2]
          exact ⟨rfl, hok, hin, h.q0, h.small, hsrc⟩
        · have hd := reply_nets hr hz
          have hnew : ∀ p ∈ S.P, p.id ≠ putK x.o x.d := fun p hp he => by
            rcases h.src p hp with ⟨i, d, y, g1, g2, g3⟩ | ⟨s, o, g1, _, _, _⟩
            · rw [g2] at he
              obtain ⟨e1, e2⟩ := putK_inj (by omega) (by omega) (by omega) (by omega) hdd.1 hdd.2 he
              have : i = j := by omega
              subst this
              rw [List.getElem?_eq_getElem hj] at g1
              obtain rfl := Option.some.inj g1
              omega
            · rw [g1] at he
              exact put_ne_sid (by omega) he.symm
          have hmk : ∀ (a b c : Int), 0 ≤ a → a ≤ 4 → 0 ≤ b → b ≤ 4 → a ≠ b → 0 ≤ c → c ≤ 1099511627776 → smallOk ⟨putK x.o x.d, x.o, a, b, c⟩ := fun a b c h1 h2 h3 h4 h5 h6 h7 => ⟨mayPst_iff.2 ⟨putK_ne _ _, by dsimp only; omega, h1, h2, h3, h4, h5, h6⟩, by dsimp only; omega⟩
          have hsrc' : ∀ (p : Pst), p.id = putK x.o x.d → srcOk (sagAt S.L x.o (S.L[j].1, t)) A.q0 p := fun p hp => .inl ⟨j, x.d, _, hnow, by rw [hp, hid], by rcases hd with ⟨a, _, c⟩ | ⟨a, _, c⟩; exact .inl ⟨a, c⟩; exact .inr ⟨a, c⟩⟩
          have key : ∀ (p : Pst), p.id = putK x.o x.d → smallOk p → postL S.P p = S.P ++ [p] := fun p hp hs => post_new (fun q hq => h.small q hq) (by omega) hs.1 hs.2 (fun q hq => by rw [hp]; exact hnew q hq)
          have fin : ∀ (p : Pst), p.id = putK x.o x.d → smallOk p → (∀ q ∈ S.P ++ [p], smallOk q) ∧ (∀ q ∈ S.P ++ [p], srcOk (sagAt S.L x.o (S.L[j].1, t)) A.q0 q) := fun p hp hs => by
            refine ⟨fun q hq => ?_, fun q hq => ?_⟩
            · rcases List.mem_append.1 hq with hq | hq
              · exact h.small q hq
              · rw [List.mem_singleton.1 hq]; exact hs
            · rcases List.mem_append.1 hq with hq | hq
              · exact hsrc q hq
              · rw [List.mem_singleton.1 hq]; exact hsrc' p hp
          unfold rawReply
          unfold replyP at hok ⊢
          by_cases c1 : 0 < netS S.L[j].1 t - netS S.L[j].1 S.L[j].2
          · rw [if_pos c1] at hok
            rw [if_pos c1, if_pos c1]
            have hs := hmk 1 0 _ (by decide) (by decide) (by decide) (by decide) (by decide) (Int.le_of_lt c1) (by omega)
            rw [key _ rfl hs] at hok ⊢
            exact ⟨rfl, hok, hin, h.q0, (fin _ rfl hs).1, (fin _ rfl hs).2⟩
          · have c2 : netS S.L[j].1 t - netS S.L[j].1 S.L[j].2 < 0 := by omega
            rw [if_neg c1, if_pos c2] at hok
            rw [if_neg c1, if_pos c2, if_neg c1, if_pos c2]
            have hs := hmk 3 1 (-(netS S.L[j].1 t - netS S.L[j].1 S.L[j].2)) (by decide) (by decide) (by decide) (by decide) (by decide) (by omega) (by omega)
            rw [key _ rfl hs] at hok ⊢
            exact ⟨rfl, hok, hin, h.q0, (fin _ rfl hs).1, (fin _ rfl hs).2⟩
  rw [if_neg k3] at hok
  rw [if_neg k3, if_neg k3]
  by_cases k4 : x.k = 4
  · rw [if_pos k4] at hok
    rw [if_pos k4, if_pos k4]
    by_cases ha : accE A x.p x.q x.rs = 0
    · rw [if_pos ha] at hok
      rw [if_pos ⟨k4, ha⟩] at hin
      rw [if_pos ha, if_pos ha, if_pos ⟨k4, ha⟩]
      obtain ⟨hst, hsq⟩ := accE_ok ha
      obtain ⟨_, _, p0, p2, _, _⟩ := okStmt_ok hst
      by_cases hp : x.p = 0
      · have hq : A.q0 < x.q := by rw [hp] at hsq; exact hsq
        have hz := h.q0
        obtain ⟨h1, h2, _⟩ := rawStmt_eq (q := x.q) (f := byI A (A.put x.p x.q x.rs)) h.small (fun p hp o ho he => by
          rcases h.src p hp with ⟨i, d, y, g1, g2, g3⟩ | ⟨s, o', g1, g2, g3, g4⟩
          · rw [g2] at he
            exact put_ne_sid (by omega) he
          · rw [g1] at he
            have := (sidK_inj g2 (by omega) g4 ho he).1
            omega) (by omega) (byI_bound h.inok hin) hl 60 (Nat.le_refl _)
        rw [h1]
        have hq0 : (A.put x.p x.q x.rs).q0 = x.q := by unfold InS.put; rw [if_pos hp]
        refine ⟨rfl, hok, hin, by omega, fun p hp => (h2 p hp).1, fun p hp => ?_⟩
        rcases (h2 p hp).2 with g | ⟨o, g1, g2, g3⟩
        · exact (h.src p g).mono (by omega) (fun j y hy => ⟨y, hy, id, id⟩)
        · exact .inr ⟨x.q, o, g1, by omega, by omega, g2⟩
      · obtain ⟨e1, e2⟩ := stmt_zero (P := S.P) (f := byI A (A.put x.p x.q x.rs)) (q := x.q) (byI_zero hp) 60
        rw [e2] at hok
        rw [e1, e2]
        have hq0 : (A.put x.p x.q x.rs).q0 = A.q0 := by unfold InS.put; rw [if_neg hp]; split <;> rfl
        exact ⟨rfl, hok, hin, by rw [hq0]; exact h.q0, h.small, by rw [hq0]; exact h.src⟩
    · rw [if_neg ha, if_neg ha, if_neg (fun hh => ha hh.2)]
      exact ⟨rfl, h⟩
  · rw [if_neg k4, if_neg k4, if_neg (fun hh => k4 hh.1)]
    exact ⟨rfl, h⟩
theorem coreOf_inv (l : List EntS) (hl : l.length ≤ 1000) : ∀ j ≤ l.length, CoInv (coreOf (l.take j)).1 (coreOf (l.take j)).2
  | 0, _ => coInv_new
  | j + 1, h => by
    have h1 := coreOf_inv l hl j (by omega)
    rw [coreOf_snoc l (by omega)]
    exact (coInv_step h1 (by have := (coreOf_ok l j (by omega)).2.1; omega) l[j]).2
/-! An order's number is its place. -/
def idsOk (L : List (OrdS × D6)) : Prop := ∀ (j : Nat) x, L[j]? = some x → x.1.id = (j : Int) + 1
theorem place_ids {L : List (OrdS × D6)} (h : idsOk L) (o : OrdS) : idsOk (placeL L o) := fun j x hx => by
  unfold placeL at hx
  split at hx
  · rename_i h0
    have ho : o.id = (L.length : Int) + 1 := by
      unfold placeE at h0
      repeat' split at h0
      all_goals first | (cases h0; done) | omega | skip
      all_goals (rename_i hh; exact Classical.not_not.1 hh)
    by_cases hj : j < L.length
    · rw [List.getElem?_append_left hj] at hx
      exact h j x hx
    · rw [List.getElem?_append_right (by omega)] at hx
      have h1 : j - L.length = 0 := by
        rcases Nat.eq_zero_or_pos (j - L.length) with h2 | h2
        · exact h2
        · rw [List.getElem?_eq_none (by simp; omega)] at hx
          cases hx
      rw [h1] at hx
      obtain rfl : (o, beginD) = x := by simpa using hx
      show o.id = _
      omega
  · exact h j x hx
theorem sagAt_ids {L : List (OrdS × D6)} {id : Int} {x : OrdS × D6} {t : D6} (h : idsOk L) (hx : ordAt L id = some x) : idsOk (sagAt L id (x.1, t)) := fun j y hy => by
  obtain ⟨i, hi, rfl, rfl⟩ := ordAt_some hx
  unfold sagAt at hy
  rw [show ((i : Int) + 1 - 1).toNat = i by omega] at hy
  by_cases hj : i = j
  · subst hj
    rw [List.getElem?_set_self hi] at hy
    obtain rfl := Option.some.inj hy
    exact h i L[i] (List.getElem?_eq_getElem hi)
  · rw [List.getElem?_set_ne hj] at hy
    exact h j y hy
theorem ids_step {S : CoS} {A : InS} (h : idsOk S.L) (x : EntS) : idsOk (applyS S A x).L := by
  unfold applyS
  split
  · exact place_ids h _
  split
  · show idsOk (stopL S.L x.o)
    unfold stopL
    split
    · exact h
    · rename_i y hy
      split
      · exact h
      · exact sagAt_ids h hy
  split
  · unfold replyS
    split
    · exact h
    · rename_i y hy
      split
      · exact h
      · exact sagAt_ids h hy
  split
  · split
    · exact h
    · exact h
  · exact h
theorem coreOf_ids (l : List EntS) : ∀ j ≤ l.length, idsOk (coreOf (l.take j)).1.L
  | 0, _ => fun j x hx => by cases hx
  | j + 1, h => by
    rw [coreOf_snoc l (by omega)]
    exact ids_step (coreOf_ids l j (by omega)) l[j]
end Go.Proofs.YtibabfedpdoofaaDoor
namespace Go.Proofs.YtibabfedpdoofaaDoor
open Go.RowKit Go.Own Go.Maps

set_option maxHeartbeats 4000000 in
set_option maxRecDepth 100000 in
theorem refPut01_any {n : Int} (h0 : 0 ≤ n) (h1 : n ≤ 9223372036854775807) (W : World) : Calls Tryd.prog 101 #[.int .i64 n] W fun e w' => e = .returned (.string ⟨(Lib.itoa n).toArray⟩) ∧ Below W.heap.size W w' := by
  have HO := Own.start W
  obtain ⟨m, rfl⟩ : ∃ m : Nat, n = (m : Int) := ⟨n.toNat, by omega⟩
  have RD := fun w => refDigits_any (n := m) (by omega) w
  have e1 : IntKind.u64.wrap (m : Int) = (m : Int) := by rw [IntKind.wrap_u64]; omega
  have hm : ¬ ((m : Int) < 0) := by omega
  rw [Lib.itoa_nonneg]
  go_enter Tryd.func101, Tryd.ntmps101
  go_wp2_with (first | (go_at_call 111; go_must ((with_reducible refine (RD _).mono ?_); rintro e w ⟨rfl, hb⟩; replace HO := HO.call hb; clear hb)))
  go_ret
  exact ⟨rfl, HO.grown⟩

set_option maxHeartbeats 4000000 in
set_option maxRecDepth 100000 in
theorem refWords_any (W : World) : Calls Tryd.prog 112 #[] W fun e w' => e = .returned (.agg #[.string ⟨#[114, 101, 115, 101, 114, 118, 101]⟩, .string ⟨#[99, 104, 97, 114, 103, 101]⟩, .string ⟨#[115, 104, 105, 112]⟩, .string ⟨#[114, 101, 108, 101, 97, 115, 101]⟩, .string ⟨#[114, 101, 102, 117, 110, 100]⟩, .string ⟨#[118, 111, 105, 100]⟩]) ∧ Below W.heap.size W w' := by
  have HO := Own.start W
  go_enter Tryd.func112, Tryd.ntmps112
  go_wp2_with (first | (first | go_big_skip | ((with_reducible apply wpList_loadAll HO); exact rfl; exact rfl; (repeat (with_reducible (first | exact At.head _ | apply At.tail))); infer_instance; exact rfl; exact rfl; (simp only [Act.put, List.setIfInBounds_toArray, List.set_cons_succ, List.set_cons_zero])) | ((with_reducible apply wpList_loadOne HO); exact rfl; exact rfl; (repeat (with_reducible (first | exact At.head _ | apply At.tail))); exact rfl; infer_instance; exact rfl; (simp only [Act.put, List.setIfInBounds_toArray, List.set_cons_succ, List.set_cons_zero]))) | ((with_reducible apply wpList_storeAll HO); exact rfl; exact rfl; exact rfl; (repeat (with_reducible (first | exact At.head _ | apply At.tail))); infer_instance; exact rfl; exact rfl; exact rfl; exact rfl; clear HO; intro w HO; (simp only [Act.put])) | (first | ((with_reducible apply wpList_boxAgg _ HO rfl); exact rfl; exact rfl; exact rfl; clear HO; intro b1 w HO; (simp only [Act.put, List.setIfInBounds_toArray, List.set_cons_succ, List.set_cons_zero])) | ((with_reducible apply wpList_allocAgg _ HO rfl); exact rfl; infer_instance; exact rfl; clear HO; intro b1 w HO; (simp only [Act.put, List.setIfInBounds_toArray, List.set_cons_zero]))))
  refine bodyPost_ret (results_one HO rfl rfl (by (repeat (with_reducible (first | exact At.head _ | apply At.tail)))) inferInstance rfl) rfl ?_
  exact ⟨rfl, HO.grown⟩

set_option maxHeartbeats 8000000 in
set_option maxRecDepth 100000 in
theorem refWord_any {d : Int} (h0 : 0 ≤ d) (h5 : d ≤ 5) (W : World) : Calls Tryd.prog 102 #[.int .i64 d] W fun e w' => e = .returned (.string ⟨(deedL d).toArray⟩) ∧ Below W.heap.size W w' := by
  have HO := Own.start W
  have hd : d = 0 ∨ d = 1 ∨ d = 2 ∨ d = 3 ∨ d = 4 ∨ d = 5 := by omega
  have WD := fun w => refWords_any w
  rcases hd with rfl | rfl | rfl | rfl | rfl | rfl
  all_goals
    go_enter Tryd.func102, Tryd.ntmps102
    go_wp2_with (first | go_big_skip | (go_at_call 112; go_must ((with_reducible refine (WD _).mono ?_); rintro e w ⟨rfl, hb⟩; replace HO := HO.call hb; clear hb)) | ((with_reducible apply wpList_indexOne (i := 0)); exact rfl; exact rfl; exact rfl; exact Tryd.underlying169; exact (by decide); infer_instance; exact rfl; exact rfl; (simp only [Act.put, List.setIfInBounds_toArray, List.set_cons_succ, List.set_cons_zero])) | ((with_reducible apply wpList_indexOne (i := 1)); exact rfl; exact rfl; exact rfl; exact Tryd.underlying169; exact (by decide); infer_instance; exact rfl; exact rfl; (simp only [Act.put, List.setIfInBounds_toArray, List.set_cons_succ, List.set_cons_zero])) | ((with_reducible apply wpList_indexOne (i := 2)); exact rfl; exact rfl; exact rfl; exact Tryd.underlying169; exact (by decide); infer_instance; exact rfl; exact rfl; (simp only [Act.put, List.setIfInBounds_toArray, List.set_cons_succ, List.set_cons_zero])) | ((with_reducible apply wpList_indexOne (i := 3)); exact rfl; exact rfl; exact rfl; exact Tryd.underlying169; exact (by decide); infer_instance; exact rfl; exact rfl; (simp only [Act.put, List.setIfInBounds_toArray, List.set_cons_succ, List.set_cons_zero])) | ((with_reducible apply wpList_indexOne (i := 4)); exact rfl; exact rfl; exact rfl; exact Tryd.underlying169; exact (by decide); infer_instance; exact rfl; exact rfl; (simp only [Act.put, List.setIfInBounds_toArray, List.set_cons_succ, List.set_cons_zero])) | ((with_reducible apply wpList_indexOne (i := 5)); exact rfl; exact rfl; exact rfl; exact Tryd.underlying169; exact (by decide); infer_instance; exact rfl; exact rfl; (simp only [Act.put, List.setIfInBounds_toArray, List.set_cons_succ, List.set_cons_zero])))
    go_ret
    exact ⟨rfl, HO.grown⟩

set_option maxHeartbeats 8000000 in
set_option maxRecDepth 100000 in
theorem refKeyPut_any {o d : Int} (hk : keyOk o d = true) (W : World) : Calls Tryd.prog 90 #[.agg #[.int .i64 o, .int .i64 d]] W fun e w' => e = .returned (.string (putK o d)) ∧ Below W.heap.size W w' := by
  have HO := Own.start W
  have h1 : 1 ≤ o ∧ o ≤ 60 ∧ 0 ≤ d ∧ d ≤ 5 := by
    simp only [keyOk, isDeed, Bool.and_eq_true, decide_eq_true_eq] at hk
    omega
  have KC := fun w => refKeyCheck_any o d w
  rw [hk] at KC
  have MP := fun w => refPut01_any (n := o) (by omega) (by omega) w
  have WD := fun w => refWord_any h1.2.2.1 h1.2.2.2 w
  have hlen := Lib.itoa_length_le o (by omega) (by omega)
  have s1 : (⟨(Lib.itoa o).toArray⟩ : ByteArray).size ≤ 21 := hlen
  have s2 : (⟨(deedL d).toArray⟩ : ByteArray).size ≤ 7 := by
    show (deedL d).length ≤ 7
    unfold deedL
    repeat' split
    all_goals decide
  have c1 : ¬ (9223372036854775807 < (⟨(Lib.itoa o).toArray⟩ : ByteArray).size + (⟨#[45]⟩ : ByteArray).size) := by
    show ¬ (9223372036854775807 < (⟨(Lib.itoa o).toArray⟩ : ByteArray).size + 1); omega
  have c2 : ¬ (9223372036854775807 < (⟨(Lib.itoa o).toArray⟩ : ByteArray).size + 1) := by omega
  have e1 : ((⟨(Lib.itoa o).toArray⟩ : ByteArray) ++ ⟨#[45]⟩).size = (⟨(Lib.itoa o).toArray⟩ : ByteArray).size + 1 := by rw [ByteArray.size_append]; rfl
  have c3 : ¬ (9223372036854775807 < ((⟨(Lib.itoa o).toArray⟩ : ByteArray) ++ ⟨#[45]⟩).size + (⟨(deedL d).toArray⟩ : ByteArray).size) := by rw [e1]; omega
  have c4 : ¬ (9223372036854775807 < (⟨(Lib.itoa o).toArray⟩ : ByteArray).size + 1 + (⟨(deedL d).toArray⟩ : ByteArray).size) := by omega
  have HP := Lib.hid (show putK o d = (⟨(Lib.itoa o).toArray⟩ : ByteArray) ++ ⟨#[45]⟩ ++ ⟨(deedL d).toArray⟩ from rfl)
  generalize putK o d = y at *
  generalize (⟨(Lib.itoa o).toArray⟩ : ByteArray) = x1 at *
  generalize (⟨(deedL d).toArray⟩ : ByteArray) = x2 at *
  clear hk h1 hlen s1 s2 e1
  go_enter Tryd.func90, Tryd.ntmps90
  go_wp2_with (first | (first | go_big_skip | ((with_reducible apply wpList_loadAll HO); exact rfl; exact rfl; (repeat (with_reducible (first | exact At.head _ | apply At.tail))); infer_instance; exact rfl; exact rfl; (simp only [Act.put, List.setIfInBounds_toArray, List.set_cons_succ, List.set_cons_zero])) | ((with_reducible apply wpList_loadOne HO); exact rfl; exact rfl; (repeat (with_reducible (first | exact At.head _ | apply At.tail))); exact rfl; infer_instance; exact rfl; (simp only [Act.put, List.setIfInBounds_toArray, List.set_cons_succ, List.set_cons_zero]))) | (first | ((with_reducible apply wpList_boxAgg _ HO rfl); exact rfl; exact rfl; exact rfl; clear HO; intro b3 w HO; (simp only [Act.put, List.setIfInBounds_toArray, List.set_cons_succ, List.set_cons_zero])) | ((with_reducible apply wpList_allocAgg _ HO rfl); exact rfl; infer_instance; exact rfl; clear HO; intro b3 w HO; (simp only [Act.put, List.setIfInBounds_toArray, List.set_cons_succ, List.set_cons_zero]))) | (go_at_call 100; go_must ((with_reducible refine (KC _).mono ?_); rintro e w ⟨rfl, hb⟩; replace HO := HO.call hb; clear hb)))
  refine region_own HO (by kernel_rfl) (by kernel_rfl) ?_
  clear HO
  intro F HF
  repeat (first | (first | go_big_quiet_skip | ((with_reducible apply wpQuiet_loadAll HF); exact rfl; exact rfl; (repeat (with_reducible (first | exact At.head _ | apply At.tail))); infer_instance; exact rfl; exact rfl; (simp only [Act.put, List.setIfInBounds_toArray, List.set_cons_succ, List.set_cons_zero])) | ((with_reducible apply wpQuiet_loadOne HF); exact rfl; exact rfl; (repeat (with_reducible (first | exact At.head _ | apply At.tail))); exact rfl; infer_instance; exact rfl; (simp only [Act.put, List.setIfInBounds_toArray, List.set_cons_succ, List.set_cons_zero])) | ((with_reducible apply wpQuiet_loadPart HF); exact rfl; exact rfl; (repeat (with_reducible (first | exact At.head _ | apply At.tail))); infer_instance; exact (Nat.le_of_ble_eq_true rfl); (simp only [List.drop_succ_cons, List.drop_zero, List.take_succ_cons, List.take_zero]; rfl); exact rfl; (simp only [Act.put, List.setIfInBounds_toArray, List.set_cons_succ, List.set_cons_zero]))) | go_big_quiet_step ((first | (go_at_call 101; (with_reducible exact calls_fam HF (MP _))) | (go_at_call 102; (with_reducible exact calls_fam HF (WD _))))))
  refine wpQuiet_nil ?_
  intro x
  have HO := HF.own x
  clear HF
  generalize F x = w at *
  clear x F
  go_wp2_with fail
  go_ret
  exact ⟨by rw [HP.out]; rfl, HO.grown⟩

set_option maxHeartbeats 8000000 in
set_option maxRecDepth 100000 in
theorem digits24_any : ∀ (n : Nat), n < 9223372036854775808 → ∀ W : World, Calls Tryd.prog 76 #[.int .i64 (n : Int)] W fun e w' => e = .returned (.string ⟨(Lib.decDigits n).toArray⟩) ∧ Below W.heap.size W w' := fun n => by
  induction n using Nat.strongRecOn with
  | ind n ih =>
    intro hn W
    have HO := Own.start W
    obtain ⟨k, hk⟩ : ∃ k, k = n % 10 := ⟨_, rfl⟩
    obtain ⟨q, hq⟩ : ∃ q, q = n / 10 := ⟨_, rfl⟩
    have hk10 : k < 10 := by omega
    have hk58 : 48 + k < 256 := by omega
    have e1 : (n : Int).tmod 10 = (k : Int) := by rw [Int.tmod_eq_emod_of_nonneg (by omega), hk]; rfl
    have e2 : (n : Int).tdiv 10 = (q : Int) := by rw [Int.tdiv_eq_ediv_of_nonneg (by omega), hq]; rfl
    have e3 : IntKind.i64.wrap (48 + (k : Int)) = 48 + (k : Int) := by rw [wrap_in (inI_iff.2 (by omega))]
    have e4 : IntKind.u8.wrap (48 + (k : Int)) = 48 + (k : Int) := by rw [IntKind.wrap_u8]; omega
    have e5 : IntKind.i64.wrap (q : Int) = (q : Int) := by rw [wrap_in (inI_iff.2 (by omega))]
    have e6 : IntKind.i64.wrap (k : Int) = (k : Int) := by rw [wrap_in (inI_iff.2 (by omega))]
    by_cases h10 : n < 10
    · have hc : ¬ ((10 : Int) ≤ (n : Int)) := by omega
      have HD := Lib.hid (show Lib.decDigits n = [UInt8.ofNat (48 + k)] by rw [Lib.decDigits, dif_pos h10, hk, Nat.mod_eq_of_lt h10])
      clear ih hq hk e2 e5
      go_enter Tryd.func76, Tryd.ntmps76
      go_wp2_with (first | (first | go_big_skip | ((with_reducible apply wpList_loadAll HO); exact rfl; exact rfl; (repeat (with_reducible (first | exact At.head _ | apply At.tail))); infer_instance; exact rfl; exact rfl; (simp only [Act.put, List.setIfInBounds_toArray, List.set_cons_succ, List.set_cons_zero])) | ((with_reducible apply wpList_loadOne HO); exact rfl; exact rfl; (repeat (with_reducible (first | exact At.head _ | apply At.tail))); exact rfl; infer_instance; exact rfl; (simp only [Act.put, List.setIfInBounds_toArray, List.set_cons_succ, List.set_cons_zero]))) | (first | ((with_reducible apply wpList_lit1 HO); exact rfl; infer_instance; infer_instance; exact rfl; exact rfl; exact (by decide); exact rfl; clear HO; intro bb w HO; (simp only [Act.put, List.setIfInBounds_toArray, List.set_cons_succ, List.set_cons_zero])) | ((with_reducible apply wpList_lit1c HO); exact rfl; infer_instance; infer_instance; (first | (simp [Act.eval]; rfl) | exact rfl); exact rfl; exact rfl; clear HO; intro bb w HO; (simp only [Act.put, List.setIfInBounds_toArray, List.set_cons_succ, List.set_cons_zero]))) | ((with_reducible apply wpList_strOne (n := 48 + k) HO); exact rfl; exact rfl; (repeat (with_reducible (first | exact At.head _ | apply At.tail))); (first | omega | (simp; done) | (simp; omega)); exact Tryd.underlying49; exact Tryd.underlying5; exact Tryd.underlying9; (first | omega | decide); exact rfl; (simp only [Act.put, List.setIfInBounds_toArray, List.set_cons_succ, List.set_cons_zero])))
      go_ret
      exact ⟨by rw [HD.out, UInt8.ofNat_add]; rfl, HO.grown⟩
    · have hc : (10 : Int) ≤ (n : Int) := by omega
      have IH := fun w => ih q (by omega) (by omega) w
      have HD := Lib.hid (show Lib.decDigits n = Lib.decDigits q ++ [UInt8.ofNat (48 + k)] by rw [Lib.decDigits, dif_neg h10, hq, hk])
      have hlen : (Lib.decDigits q).length ≤ 25 := by
        have := Lib.itoa_length_le (q : Int) (by omega) (by omega)
        rw [Lib.itoa_nonneg] at this
        omega
      have c1 : ¬ (9223372036854775807 < (Lib.decDigits q).length + 1) := by omega
      have c2 : ¬ (9223372036854775807 < (⟨(Lib.decDigits q).toArray⟩ : ByteArray).size + (⟨#[UInt8.ofNat (48 + k)]⟩ : ByteArray).size) := by
        show ¬ (9223372036854775807 < (Lib.decDigits q).length + 1); omega
      generalize Lib.decDigits q = dq at *
      clear ih hq hk hlen
      go_enter Tryd.func76, Tryd.ntmps76
      go_wp2_with (first | (first | go_big_skip | ((with_reducible apply wpList_loadAll HO); exact rfl; exact rfl; (repeat (with_reducible (first | exact At.head _ | apply At.tail))); infer_instance; exact rfl; exact rfl; (simp only [Act.put, List.setIfInBounds_toArray, List.set_cons_succ, List.set_cons_zero])) | ((with_reducible apply wpList_loadOne HO); exact rfl; exact rfl; (repeat (with_reducible (first | exact At.head _ | apply At.tail))); exact rfl; infer_instance; exact rfl; (simp only [Act.put, List.setIfInBounds_toArray, List.set_cons_succ, List.set_cons_zero]))) | (first | ((with_reducible apply wpList_lit1 HO); exact rfl; infer_instance; infer_instance; exact rfl; exact rfl; exact (by decide); exact rfl; clear HO; intro bb w HO; (simp only [Act.put, List.setIfInBounds_toArray, List.set_cons_succ, List.set_cons_zero])) | ((with_reducible apply wpList_lit1c HO); exact rfl; infer_instance; infer_instance; (first | (simp [Act.eval]; rfl) | exact rfl); exact rfl; exact rfl; clear HO; intro bb w HO; (simp only [Act.put, List.setIfInBounds_toArray, List.set_cons_succ, List.set_cons_zero]))) | ((with_reducible apply wpList_strOne (n := 48 + k) HO); exact rfl; exact rfl; (repeat (with_reducible (first | exact At.head _ | apply At.tail))); (first | omega | (simp; done) | (simp; omega)); exact Tryd.underlying49; exact Tryd.underlying5; exact Tryd.underlying9; (first | omega | decide); exact rfl; (simp only [Act.put, List.setIfInBounds_toArray, List.set_cons_succ, List.set_cons_zero])) | (go_at_call 76; go_must ((with_reducible refine (IH _).mono ?_); rintro e w ⟨rfl, hb⟩; replace HO := HO.call hb; clear hb)))
      go_ret
      exact ⟨by rw [HD.out, UInt8.ofNat_add]; first | rfl | (congr 3; simp) | simp, HO.grown⟩
end Go.Proofs.YtibabfedpdoofaaDoor
namespace Go.Own
open Go.RowKit
end Go.Own
namespace Go.Proofs.YtibabfedpdoofaaDoor
open Go.RowKit Go.Own Go.Maps Go.Shelf

theorem pstC_one (l : List Pst) : ∀ u ∈ (l.map pstC).flatten, u.oneCell' = true := by
  intro u hu
  obtain ⟨x, hx, hu⟩ := List.mem_flatten.1 hu
  obtain ⟨p, _, rfl⟩ := List.mem_map.1 hx
  simp only [pstC, List.mem_cons, List.not_mem_nil, or_false] at hu
  rcases hu with rfl | rfl | rfl | rfl | rfl <;> rfl

end Go.Proofs.YtibabfedpdoofaaDoor

/-
  The entry of some bytes, by walking the program's text; conditions: a text that is not too long, the table of parties as laid.
-/
import Derived.Test.YtlfphfklcifgpaaDoorEntSame
import Derived.Test.YtlfphfklcifgpaaDoorEntNums
import Derived.Test.YtlfphfklcifgpaaDoorOrdGet
import Derived.Test.YtlfphfklcifgpaaDoorRowGetLaw
namespace Go.Proofs.YtlfphfklcifgpaaDoor
open Go.RowKit Go.Own

def finE (x : EntS) : Option EntS := if checkE x = 0 then some x else none
def getEP (l : List UInt8) : Option EntS := match readB l with
  | none => none
  | some (k, r) =>
    if k = 1 then (match getOrd r with
      | some (id, ref, sku, qty, amt) => some ⟨1, id, ref, sku, qty, amt, 0, 0, 0, 0, 0, []⟩
      | none => none)
    else if k = 2 then (match numsN 1 r with
      | some A => finE ⟨2, 0, [], [], 0, 0, (A.getD 0 0 : Nat), 0, 0, 0, 0, []⟩
      | none => none)
    else if k = 3 then (match numsN 3 r with
      | some A => finE ⟨3, 0, [], [], 0, 0, (A.getD 0 0 : Nat), (A.getD 1 0 : Nat), (A.getD 2 0 : Nat), 0, 0, []⟩
      | none => none)
    else if k = 4 then (match getP r with
      | some (p, q, rs) => some ⟨4, 0, [], [], 0, 0, 0, 0, 0, p, q, rs⟩
      | none => none)
    else none
/-- What a call hands back: an entry, its rows in memory of the caller's own. -/
def EntPost (o : Option EntS) (W : World) (L : List Ent) (e : Ending) (w' : World) : Prop := match o with
  | some x => ∃ v, e = .returned (.tuple #[.agg #[.int .i64 (x).k, .int .i64 (x).id, .string ⟨(x).ref.toArray⟩, .string ⟨(x).sku.toArray⟩, .int .i64 (x).qty, .int .i64 (x).amt, .int .i64 (x).o, .int .i64 (x).d, .int .i64 (x).c, .int .i64 (x).p, .int .i64 (x).q, v], .int .i64 0]) ∧ Own W w' (row 45 5 v (x.rs.map rowC) :: L)
  | none => e = .returned (.tuple #[.agg #[.int .i64 (zeroE 0).k, .int .i64 (zeroE 0).id, .string ⟨(zeroE 0).ref.toArray⟩, .string ⟨(zeroE 0).sku.toArray⟩, .int .i64 (zeroE 0).qty, .int .i64 (zeroE 0).amt, .int .i64 (zeroE 0).o, .int .i64 (zeroE 0).d, .int .i64 (zeroE 0).c, .int .i64 (zeroE 0).p, .int .i64 (zeroE 0).q, .slice none 0 0], .int .i64 10]) ∧ Own W w' L
theorem takeN_len : ∀ (m : Nat) (l : List UInt8) (A : List Nat) (r : List UInt8), takeN m l = some (A, r) → A.length = m ∧ ∀ n ∈ A, n ≤ 1073741824
  | 0, l, A, r, h => by
    simp only [takeN, Option.some.injEq, Prod.mk.injEq] at h
    obtain ⟨rfl, -⟩ := h
    simp
  | m + 1, l, A, r, h => by
    cases hr : readB l with
    | none => rw [takeN_none hr] at h; cases h
    | some x =>
      obtain ⟨n, r'⟩ := x
      rw [takeN_some hr] at h
      split at h
      · rename_i hn
        cases ht : takeN m r' with
        | none => rw [ht] at h; cases h
        | some y =>
          obtain ⟨B, s⟩ := y
          rw [ht] at h
          simp only [Option.map_some, Option.some.injEq, Prod.mk.injEq] at h
          obtain ⟨rfl, -⟩ := h
          obtain ⟨h1, h2⟩ := takeN_len m r' B s ht
          exact ⟨by simp [h1], fun k hk => by rcases List.mem_cons.1 hk with rfl | hk; exact hn; exact h2 k hk⟩
      · cases h
theorem numsN_len {m : Nat} {l : List UInt8} {A : List Nat} (h : numsN m l = some A) : takeN m l = some (A, []) ∧ A.length = m ∧ ∀ n ∈ A, n ≤ 1073741824 := by
  unfold numsN at h
  cases ht : takeN m l with
  | none => rw [ht] at h; cases h
  | some y =>
    obtain ⟨B, s⟩ := y
    rw [ht] at h
    simp only at h
    split at h
    · rename_i hs
      cases h
      subst hs
      exact ⟨rfl, takeN_len m l A [] ht⟩
    · cases h

set_option maxHeartbeats 4000000 in
set_option maxRecDepth 100000 in
theorem entGet_any {W w : World} {L : List Ent} (l : List UInt8) (hl : l.length ≤ 100000) (HO : Own W w L) (hL : Laid W) : Calls Tryd.prog 37 #[.string ⟨l.toArray⟩] w (EntPost (getEP l) W L) := by
  have hR := fun w => read_any l w (by unfold maxLen; omega)
  have hLW := fun w' (hb : Below W.heap.size W w') => hL.below hb hL.1
  cases hr : readB l with
  | none =>
    have HG := Lib.hid (show getEP l = none by simp [getEP, hr])
    rw [hr] at hR
    simp only [retRead] at hR
    clear hr
    go_enter Tryd.func37, Tryd.ntmps37
    go_wp2_with (first | (first | go_big_skip | ((with_reducible apply wpList_loadAll HO); exact rfl; exact rfl; (repeat (with_reducible (first | exact At.head _ | apply At.tail))); infer_instance; exact rfl; exact rfl; (simp only [Act.put, List.setIfInBounds_toArray, List.set_cons_succ, List.set_cons_zero])) | ((with_reducible apply wpList_loadOne HO); exact rfl; exact rfl; (repeat (with_reducible (first | exact At.head _ | apply At.tail))); exact rfl; infer_instance; exact rfl; (simp only [Act.put, List.setIfInBounds_toArray, List.set_cons_succ, List.set_cons_zero]))) | ((with_reducible apply wpList_storeAll HO); exact rfl; exact rfl; exact rfl; (repeat (with_reducible (first | exact At.head _ | apply At.tail))); infer_instance; exact rfl; exact rfl; exact rfl; exact rfl; clear HO; intro w HO; (simp only [Act.put])) | ((with_reducible apply wpList_allocAgg _ HO rfl); exact rfl; infer_instance; exact rfl; clear HO; intro b2 w HO; (simp only [Act.put, List.setIfInBounds_toArray, List.set_cons_succ, List.set_cons_zero])) | (go_at_call 65; go_must ((with_reducible refine (hR _).mono ?_); rintro e w ⟨rfl, hb⟩; replace HO := HO.call hb; clear hb)))
    refine bodyPost_ret (results_box HO rfl rfl (by (repeat (with_reducible (first | exact At.head _ | apply At.tail)))) inferInstance rfl rfl) rfl ?_
    rw [HG.out]
    exact ⟨rfl, HO.tail⟩
  | some x =>
    obtain ⟨k, r⟩ := x
    have hlr := readB_len hr
    rw [hr] at hR
    simp only [retRead] at hR
    have hk : k = 0 ∨ k = 1 ∨ k = 2 ∨ k = 3 ∨ k = 4 ∨ 4 < k := by omega
    rcases hk with rfl | rfl | rfl | rfl | rfl | hk
    · have HG := Lib.hid (show getEP l = none by simp [getEP, hr])
      clear hr
      go_enter Tryd.func37, Tryd.ntmps37
      go_wp2_with (first | (first | go_big_skip | ((with_reducible apply wpList_loadAll HO); exact rfl; exact rfl; (repeat (with_reducible (first | exact At.head _ | apply At.tail))); infer_instance; exact rfl; exact rfl; (simp only [Act.put, List.setIfInBounds_toArray, List.set_cons_succ, List.set_cons_zero])) | ((with_reducible apply wpList_loadOne HO); exact rfl; exact rfl; (repeat (with_reducible (first | exact At.head _ | apply At.tail))); exact rfl; infer_instance; exact rfl; (simp only [Act.put, List.setIfInBounds_toArray, List.set_cons_succ, List.set_cons_zero]))) | ((with_reducible apply wpList_storeAll HO); exact rfl; exact rfl; exact rfl; (repeat (with_reducible (first | exact At.head _ | apply At.tail))); infer_instance; exact rfl; exact rfl; exact rfl; exact rfl; clear HO; intro w HO; (simp only [Act.put])) | ((with_reducible apply wpList_allocAgg _ HO rfl); exact rfl; infer_instance; exact rfl; clear HO; intro b2 w HO; (simp only [Act.put, List.setIfInBounds_toArray, List.set_cons_succ, List.set_cons_zero])) | (go_at_call 65; go_must ((with_reducible refine (hR _).mono ?_); rintro e w ⟨rfl, hb⟩; replace HO := HO.call hb; clear hb)))
      refine bodyPost_ret (results_box HO rfl rfl (by (repeat (with_reducible (first | exact At.head _ | apply At.tail)))) inferInstance rfl rfl) rfl ?_
      rw [HG.out]
      exact ⟨rfl, HO.tail⟩
    · cases ho : getOrd r with
      | none =>
        have HG := Lib.hid (show getEP l = none by simp [getEP, hr, ho])
        have O := fun w => get_any r w (by unfold maxLen; omega)
        rw [ho] at O
        simp only [retGet] at O
        clear hr ho
        go_enter Tryd.func37, Tryd.ntmps37
        go_wp2_with (first | (first | go_big_skip | ((with_reducible apply wpList_loadAll HO); exact rfl; exact rfl; (repeat (with_reducible (first | exact At.head _ | apply At.tail))); infer_instance; exact rfl; exact rfl; (simp only [Act.put, List.setIfInBounds_toArray, List.set_cons_succ, List.set_cons_zero])) | ((with_reducible apply wpList_loadOne HO); exact rfl; exact rfl; (repeat (with_reducible (first | exact At.head _ | apply At.tail))); exact rfl; infer_instance; exact rfl; (simp only [Act.put, List.setIfInBounds_toArray, List.set_cons_succ, List.set_cons_zero]))) | ((with_reducible apply wpList_storeAll HO); exact rfl; exact rfl; exact rfl; (repeat (with_reducible (first | exact At.head _ | apply At.tail))); infer_instance; exact rfl; exact rfl; exact rfl; exact rfl; clear HO; intro w HO; (simp only [Act.put])) | ((with_reducible apply wpList_storePart HO); exact rfl; exact rfl; (first | (simp [Act.eval]; rfl) | exact rfl); exact rfl; (repeat (with_reducible (first | exact At.head _ | apply At.tail))); infer_instance; exact rfl; exact (by simp); (simp only [putL, List.drop_succ_cons, List.drop_zero, List.take_succ_cons, List.take_zero, List.length_cons, List.length_nil, List.cons_append, List.nil_append, List.append_nil, Nat.reduceAdd]; rfl); exact rfl; exact rfl; clear HO; intro w HO; (simp only [Act.put])) | ((have _h : Own W _ (box _ _ :: _) := HO); clear _h; ((with_reducible apply wpList_allocAgg _ HO rfl); exact rfl; infer_instance; exact rfl; clear HO; intro b7 w HO; (simp only [Act.put, List.setIfInBounds_toArray, List.set_cons_succ, List.set_cons_zero]))) | ((with_reducible apply wpList_allocAgg _ HO rfl); exact rfl; infer_instance; exact rfl; clear HO; intro b2 w HO; (simp only [Act.put, List.setIfInBounds_toArray, List.set_cons_succ, List.set_cons_zero])) | (go_at_call 65; go_must ((with_reducible refine (hR _).mono ?_); rintro e w ⟨rfl, hb⟩; replace HO := HO.call hb; clear hb)) | (go_at_call 66; go_must ((with_reducible refine (O _).mono ?_); rintro e w ⟨rfl, hb⟩; replace HO := HO.call hb; clear hb)))
        refine bodyPost_ret (results_box HO rfl rfl (by (repeat (with_reducible (first | exact At.head _ | apply At.tail)))) inferInstance rfl rfl) rfl ?_
        rw [HG.out]
        exact ⟨rfl, HO.tail.tail⟩
      | some y =>
        obtain ⟨id, ref, sku, qty, amt⟩ := y
        have HG := Lib.hid (show getEP l = some ⟨1, id, ref, sku, qty, amt, 0, 0, 0, 0, 0, []⟩ by simp [getEP, hr, ho])
        have O := fun w => get_any r w (by unfold maxLen; omega)
        rw [ho] at O
        simp only [retGet] at O
        have hoc := (getOrd_some ho).1
        have hlen := ordCheck_ok hoc
        have C := fun w (hb : Below W.heap.size W w) => entCheck_any (W := w) (v := .slice none 0 0) ⟨1, id, ref, sku, qty, amt, 0, 0, 0, 0, 0, []⟩ (.none _ _ (fun _ => rfl)) (hLW w hb) (by unfold maxLen; simp only; omega) (by unfold maxLen; simp only; omega)
        rw [show checkE ⟨1, id, ref, sku, qty, amt, 0, 0, 0, 0, 0, []⟩ = 0 from hoc] at C
        simp only at C
        clear hr ho hoc hlen
        go_enter Tryd.func37, Tryd.ntmps37
        go_wp2_with (first | (first | go_big_skip | ((with_reducible apply wpList_loadAll HO); exact rfl; exact rfl; (repeat (with_reducible (first | exact At.head _ | apply At.tail))); infer_instance; exact rfl; exact rfl; (simp only [Act.put, List.setIfInBounds_toArray, List.set_cons_succ, List.set_cons_zero])) | ((with_reducible apply wpList_loadOne HO); exact rfl; exact rfl; (repeat (with_reducible (first | exact At.head _ | apply At.tail))); exact rfl; infer_instance; exact rfl; (simp only [Act.put, List.setIfInBounds_toArray, List.set_cons_succ, List.set_cons_zero]))) | ((with_reducible apply wpList_storeAll HO); exact rfl; exact rfl; exact rfl; (repeat (with_reducible (first | exact At.head _ | apply At.tail))); infer_instance; exact rfl; exact rfl; exact rfl; exact rfl; clear HO; intro w HO; (simp only [Act.put])) | ((with_reducible apply wpList_storePart HO); exact rfl; exact rfl; (first | (simp [Act.eval]; rfl) | exact rfl); exact rfl; (repeat (with_reducible (first | exact At.head _ | apply At.tail))); infer_instance; exact rfl; exact (by simp); (simp only [putL, List.drop_succ_cons, List.drop_zero, List.take_succ_cons, List.take_zero, List.length_cons, List.length_nil, List.cons_append, List.nil_append, List.append_nil, Nat.reduceAdd]; rfl); exact rfl; exact rfl; clear HO; intro w HO; (simp only [Act.put])) | ((have _h : Own W _ (box _ _ :: _) := HO); clear _h; ((with_reducible apply wpList_allocAgg _ HO rfl); exact rfl; infer_instance; exact rfl; clear HO; intro b7 w HO; (simp only [Act.put, List.setIfInBounds_toArray, List.set_cons_succ, List.set_cons_zero]))) | ((with_reducible apply wpList_allocAgg _ HO rfl); exact rfl; infer_instance; exact rfl; clear HO; intro b2 w HO; (simp only [Act.put, List.setIfInBounds_toArray, List.set_cons_succ, List.set_cons_zero])) | (go_at_call 65; go_must ((with_reducible refine (hR _).mono ?_); rintro e w ⟨rfl, hb⟩; replace HO := HO.call hb; clear hb)) | (go_at_call 66; go_must ((with_reducible refine (O _).mono ?_); rintro e w ⟨rfl, hb⟩; replace HO := HO.call hb; clear hb)) | (go_at_call 39; go_must ((with_reducible refine (C _ HO.grown).mono ?_); rintro e w ⟨rfl, hb⟩; replace HO := HO.call hb; clear hb)))
        refine bodyPost_ret (results_box HO rfl rfl (by (repeat (with_reducible (first | exact At.head _ | apply At.tail)))) inferInstance rfl rfl) rfl ?_
        rw [HG.out]
        exact ⟨_, rfl, (HO.tail.tail).nil 45 5⟩
    · have N : ∀ {w : World} {L' : List Ent}, Own W w L' → Calls Tryd.prog 67 #[.string ⟨r.toArray⟩, .int .i64 1] w (NumsNPost 1 r W L') := fun h => numbersN_any 1 r (by decide) (by unfold maxLen; omega) h
      unfold NumsNPost at N
      cases hn : numsN 1 r with
      | none =>
        have HG := Lib.hid (show getEP l = none by simp [getEP, hr, hn])
        rw [hn] at N
        simp only at N
        clear hr hn
        go_enter Tryd.func37, Tryd.ntmps37
        go_wp2_with (first | (first | go_big_skip | ((with_reducible apply wpList_loadAll HO); exact rfl; exact rfl; (repeat (with_reducible (first | exact At.head _ | apply At.tail))); infer_instance; exact rfl; exact rfl; (simp only [Act.put, List.setIfInBounds_toArray, List.set_cons_succ, List.set_cons_zero])) | ((with_reducible apply wpList_loadOne HO); exact rfl; exact rfl; (repeat (with_reducible (first | exact At.head _ | apply At.tail))); exact rfl; infer_instance; exact rfl; (simp only [Act.put, List.setIfInBounds_toArray, List.set_cons_succ, List.set_cons_zero]))) | ((with_reducible apply wpList_storeAll HO); exact rfl; exact rfl; exact rfl; (repeat (with_reducible (first | exact At.head _ | apply At.tail))); infer_instance; exact rfl; exact rfl; exact rfl; exact rfl; clear HO; intro w HO; (simp only [Act.put])) | ((with_reducible apply wpList_storePart HO); exact rfl; exact rfl; (first | (simp [Act.eval]; rfl) | exact rfl); exact rfl; (repeat (with_reducible (first | exact At.head _ | apply At.tail))); infer_instance; exact rfl; exact (by simp); (simp only [putL, List.drop_succ_cons, List.drop_zero, List.take_succ_cons, List.take_zero, List.length_cons, List.length_nil, List.cons_append, List.nil_append, List.append_nil, Nat.reduceAdd]; rfl); exact rfl; exact rfl; clear HO; intro w HO; (simp only [Act.put])) | ((have _h : Own W _ (box _ _ :: _) := HO); clear _h; ((with_reducible apply wpList_allocAgg _ HO rfl); exact rfl; infer_instance; exact rfl; clear HO; intro b7 w HO; (simp only [Act.put, List.setIfInBounds_toArray, List.set_cons_succ, List.set_cons_zero]))) | ((with_reducible apply wpList_allocAgg _ HO rfl); exact rfl; infer_instance; exact rfl; clear HO; intro b2 w HO; (simp only [Act.put, List.setIfInBounds_toArray, List.set_cons_succ, List.set_cons_zero])) | (go_at_call 65; go_must ((with_reducible refine (hR _).mono ?_); rintro e w ⟨rfl, hb⟩; replace HO := HO.call hb; clear hb)) | (go_at_call 67; go_must ((with_reducible refine (N HO).mono ?_); rintro e w ⟨p1, n1, c1, rfl, HO1⟩; clear HO; have HO := HO1; clear HO1)))
        refine bodyPost_ret (results_box HO rfl rfl (by (repeat (with_reducible (first | exact At.head _ | apply At.tail)))) inferInstance rfl rfl) rfl ?_
        rw [HG.out]
        exact ⟨rfl, HO.tail.tail⟩
      | some A =>
        obtain ⟨-, hA, hm⟩ := numsN_len hn
        obtain ⟨n, rfl⟩ : ∃ n, A = [n] := by match A, hA with | [n], _ => exact ⟨n, rfl⟩
        have hn1 := hm n (by simp)
        rw [hn] at N
        simp only at N
        have C := fun w (hb : Below W.heap.size W w) => entCheck_any (W := w) (v := .slice none 0 0) ⟨2, 0, [], [], 0, 0, n, 0, 0, 0, 0, []⟩ (.none _ _ (fun _ => rfl)) (hLW w hb) (by unfold maxLen; simp) (by unfold maxLen; simp)
        by_cases hc : checkE ⟨2, 0, [], [], 0, 0, n, 0, 0, 0, 0, []⟩ = 0
        · have HG := Lib.hid (show getEP l = some ⟨2, 0, [], [], 0, 0, n, 0, 0, 0, 0, []⟩ by simp [getEP, hr, hn, finE, hc])
          rw [hc] at C
          simp only at C
          clear hr hn hc hm hA
          go_enter Tryd.func37, Tryd.ntmps37
          go_wp2_with (first | (first | go_big_skip | ((with_reducible apply wpList_loadAll HO); exact rfl; exact rfl; (repeat (with_reducible (first | exact At.head _ | apply At.tail))); infer_instance; exact rfl; exact rfl; (simp only [Act.put, List.setIfInBounds_toArray, List.set_cons_succ, List.set_cons_zero])) | ((with_reducible apply wpList_loadOne HO); exact rfl; exact rfl; (repeat (with_reducible (first | exact At.head _ | apply At.tail))); exact rfl; infer_instance; exact rfl; (simp only [Act.put, List.setIfInBounds_toArray, List.set_cons_succ, List.set_cons_zero]))) | ((with_reducible apply wpList_storeAll HO); exact rfl; exact rfl; exact rfl; (repeat (with_reducible (first | exact At.head _ | apply At.tail))); infer_instance; exact rfl; exact rfl; exact rfl; exact rfl; clear HO; intro w HO; (simp only [Act.put])) | ((with_reducible apply wpList_storePart HO); exact rfl; exact rfl; (first | (simp [Act.eval]; rfl) | exact rfl); exact rfl; (repeat (with_reducible (first | exact At.head _ | apply At.tail))); infer_instance; exact rfl; exact (by simp); (simp only [putL, List.drop_succ_cons, List.drop_zero, List.take_succ_cons, List.take_zero, List.length_cons, List.length_nil, List.cons_append, List.nil_append, List.append_nil, Nat.reduceAdd]; rfl); exact rfl; exact rfl; clear HO; intro w HO; (simp only [Act.put])) | ((have _h : Own W _ (box _ _ :: _) := HO); clear _h; ((with_reducible apply wpList_allocAgg _ HO rfl); exact rfl; infer_instance; exact rfl; clear HO; intro b7 w HO; (simp only [Act.put, List.setIfInBounds_toArray, List.set_cons_succ, List.set_cons_zero]))) | ((with_reducible apply wpList_allocAgg _ HO rfl); exact rfl; infer_instance; exact rfl; clear HO; intro b2 w HO; (simp only [Act.put, List.setIfInBounds_toArray, List.set_cons_succ, List.set_cons_zero])) | (go_at_call 65; go_must ((with_reducible refine (hR _).mono ?_); rintro e w ⟨rfl, hb⟩; replace HO := HO.call hb; clear hb)) | (go_at_call 67; go_must ((with_reducible refine (N HO).mono ?_); rintro e w ⟨v1, rfl, HO1⟩; clear HO; have HO := HO1; clear HO1; obtain ⟨q1, c1, rfl⟩ := (HO.rowForm (.head _)).2 (by simp); simp only [List.length_map, List.length_cons, List.length_nil, Nat.zero_add, Nat.reduceAdd] at HO ⊢)) | (go_at_call 39; go_must ((with_reducible refine (C _ HO.grown).mono ?_); rintro e w ⟨rfl, hb⟩; replace HO := HO.call hb; clear hb)) | ((with_reducible apply wpList_loadAt1 HO); exact rfl; exact rfl; exact ((fun _ h1 => (h1.held (List.Sublist.refl _)).rowAt0 (by (repeat (with_reducible (first | exact At.head _ | apply At.tail)))) (natLen [n]) rfl)); infer_instance; exact rfl; (simp only [Act.put, List.setIfInBounds_toArray, List.set_cons_succ, List.set_cons_zero])) | ((with_reducible apply wpList_storeOne HO); exact rfl; exact rfl; (first | (simp [Act.eval]; rfl) | exact rfl); exact rfl; (repeat (with_reducible (first | exact At.head _ | apply At.tail))); infer_instance; exact (by simp); (simp only [List.set_cons_succ, List.set_cons_zero]; rfl); exact rfl; clear HO; intro w HO; (simp only [Act.put])))
          refine bodyPost_ret (results_box HO rfl rfl (by (repeat (with_reducible (first | exact At.head _ | apply At.tail)))) inferInstance rfl rfl) rfl ?_
          rw [HG.out]
          exact ⟨_, rfl, (HO.tail.tail.tail).nil 45 5⟩
        · have HG := Lib.hid (show getEP l = none by simp [getEP, hr, hn, finE, hc])
          generalize checkE ⟨2, 0, [], [], 0, 0, n, 0, 0, 0, 0, []⟩ = e at *
          simp only at C
          have e1 : (e == 0) = false := by simpa using hc
          have e2 : (e != 0) = true := by simpa using hc
          clear hr hn hc hm hA
          go_enter Tryd.func37, Tryd.ntmps37
          go_wp2_with (first | (first | go_big_skip | ((with_reducible apply wpList_loadAll HO); exact rfl; exact rfl; (repeat (with_reducible (first | exact At.head _ | apply At.tail))); infer_instance; exact rfl; exact rfl; (simp only [Act.put, List.setIfInBounds_toArray, List.set_cons_succ, List.set_cons_zero])) | ((with_reducible apply wpList_loadOne HO); exact rfl; exact rfl; (repeat (with_reducible (first | exact At.head _ | apply At.tail))); exact rfl; infer_instance; exact rfl; (simp only [Act.put, List.setIfInBounds_toArray, List.set_cons_succ, List.set_cons_zero]))) | ((with_reducible apply wpList_storeAll HO); exact rfl; exact rfl; exact rfl; (repeat (with_reducible (first | exact At.head _ | apply At.tail))); infer_instance; exact rfl; exact rfl; exact rfl; exact rfl; clear HO; intro w HO; (simp only [Act.put])) | ((with_reducible apply wpList_storePart HO); exact rfl; exact rfl; (first | (simp [Act.eval]; rfl) | exact rfl); exact rfl; (repeat (with_reducible (first | exact At.head _ | apply At.tail))); infer_instance; exact rfl; exact (by simp); (simp only [putL, List.drop_succ_cons, List.drop_zero, List.take_succ_cons, List.take_zero, List.length_cons, List.length_nil, List.cons_append, List.nil_append, List.append_nil, Nat.reduceAdd]; rfl); exact rfl; exact rfl; clear HO; intro w HO; (simp only [Act.put])) | ((have _h : Own W _ (box _ _ :: _) := HO); clear _h; ((with_reducible apply wpList_allocAgg _ HO rfl); exact rfl; infer_instance; exact rfl; clear HO; intro b7 w HO; (simp only [Act.put, List.setIfInBounds_toArray, List.set_cons_succ, List.set_cons_zero]))) | ((with_reducible apply wpList_allocAgg _ HO rfl); exact rfl; infer_instance; exact rfl; clear HO; intro b2 w HO; (simp only [Act.put, List.setIfInBounds_toArray, List.set_cons_succ, List.set_cons_zero])) | (go_at_call 65; go_must ((with_reducible refine (hR _).mono ?_); rintro e w ⟨rfl, hb⟩; replace HO := HO.call hb; clear hb)) | (go_at_call 67; go_must ((with_reducible refine (N HO).mono ?_); rintro e w ⟨v1, rfl, HO1⟩; clear HO; have HO := HO1; clear HO1; obtain ⟨q1, c1, rfl⟩ := (HO.rowForm (.head _)).2 (by simp); simp only [List.length_map, List.length_cons, List.length_nil, Nat.zero_add, Nat.reduceAdd] at HO ⊢)) | (go_at_call 39; go_must ((with_reducible refine (C _ HO.grown).mono ?_); rintro e w ⟨rfl, hb⟩; replace HO := HO.call hb; clear hb)) | ((with_reducible apply wpList_loadAt1 HO); exact rfl; exact rfl; exact ((fun _ h1 => (h1.held (List.Sublist.refl _)).rowAt0 (by (repeat (with_reducible (first | exact At.head _ | apply At.tail)))) (natLen [n]) rfl)); infer_instance; exact rfl; (simp only [Act.put, List.setIfInBounds_toArray, List.set_cons_succ, List.set_cons_zero])) | ((with_reducible apply wpList_storeOne HO); exact rfl; exact rfl; (first | (simp [Act.eval]; rfl) | exact rfl); exact rfl; (repeat (with_reducible (first | exact At.head _ | apply At.tail))); infer_instance; exact (by simp); (simp only [List.set_cons_succ, List.set_cons_zero]; rfl); exact rfl; clear HO; intro w HO; (simp only [Act.put])))
          refine bodyPost_ret (results_box HO rfl rfl (by (repeat (with_reducible (first | exact At.head _ | apply At.tail)))) inferInstance rfl rfl) rfl ?_
          rw [HG.out]
          exact ⟨rfl, HO.tail.tail.tail⟩
    · have N : ∀ {w : World} {L' : List Ent}, Own W w L' → Calls Tryd.prog 67 #[.string ⟨r.toArray⟩, .int .i64 3] w (NumsNPost 3 r W L') := fun h => numbersN_any 3 r (by decide) (by unfold maxLen; omega) h
      unfold NumsNPost at N
      cases hn : numsN 3 r with
      | none =>
        have HG := Lib.hid (show getEP l = none by simp [getEP, hr, hn])
        rw [hn] at N
        simp only at N
        clear hr hn
        go_enter Tryd.func37, Tryd.ntmps37
        go_wp2_with (first | (first | go_big_skip | ((with_reducible apply wpList_loadAll HO); exact rfl; exact rfl; (repeat (with_reducible (first | exact At.head _ | apply At.tail))); infer_instance; exact rfl; exact rfl; (simp only [Act.put, List.setIfInBounds_toArray, List.set_cons_succ, List.set_cons_zero])) | ((with_reducible apply wpList_loadOne HO); exact rfl; exact rfl; (repeat (with_reducible (first | exact At.head _ | apply At.tail))); exact rfl; infer_instance; exact rfl; (simp only [Act.put, List.setIfInBounds_toArray, List.set_cons_succ, List.set_cons_zero]))) | ((with_reducible apply wpList_storeAll HO); exact rfl; exact rfl; exact rfl; (repeat (with_reducible (first | exact At.head _ | apply At.tail))); infer_instance; exact rfl; exact rfl; exact rfl; exact rfl; clear HO; intro w HO; (simp only [Act.put])) | ((with_reducible apply wpList_storePart HO); exact rfl; exact rfl; (first | (simp [Act.eval]; rfl) | exact rfl); exact rfl; (repeat (with_reducible (first | exact At.head _ | apply At.tail))); infer_instance; exact rfl; exact (by simp); (simp only [putL, List.drop_succ_cons, List.drop_zero, List.take_succ_cons, List.take_zero, List.length_cons, List.length_nil, List.cons_append, List.nil_append, List.append_nil, Nat.reduceAdd]; rfl); exact rfl; exact rfl; clear HO; intro w HO; (simp only [Act.put])) | ((have _h : Own W _ (box _ _ :: _) := HO); clear _h; ((with_reducible apply wpList_allocAgg _ HO rfl); exact rfl; infer_instance; exact rfl; clear HO; intro b7 w HO; (simp only [Act.put, List.setIfInBounds_toArray, List.set_cons_succ, List.set_cons_zero]))) | ((with_reducible apply wpList_allocAgg _ HO rfl); exact rfl; infer_instance; exact rfl; clear HO; intro b2 w HO; (simp only [Act.put, List.setIfInBounds_toArray, List.set_cons_succ, List.set_cons_zero])) | (go_at_call 65; go_must ((with_reducible refine (hR _).mono ?_); rintro e w ⟨rfl, hb⟩; replace HO := HO.call hb; clear hb)) | (go_at_call 67; go_must ((with_reducible refine (N HO).mono ?_); rintro e w ⟨p1, n1, c1, rfl, HO1⟩; clear HO; have HO := HO1; clear HO1)))
        refine bodyPost_ret (results_box HO rfl rfl (by (repeat (with_reducible (first | exact At.head _ | apply At.tail)))) inferInstance rfl rfl) rfl ?_
        rw [HG.out]
        exact ⟨rfl, HO.tail.tail⟩
      | some A =>
        obtain ⟨-, hA, hm⟩ := numsN_len hn
        obtain ⟨a, b, c, rfl⟩ : ∃ a b c, A = [a, b, c] := by match A, hA with | [a, b, c], _ => exact ⟨a, b, c, rfl⟩
        have ha1 := hm a (by simp)
        have hb1 := hm b (by simp)
        have hc1 := hm c (by simp)
        rw [hn] at N
        simp only at N
        have C := fun w (hb : Below W.heap.size W w) => entCheck_any (W := w) (v := .slice none 0 0) ⟨3, 0, [], [], 0, 0, a, b, c, 0, 0, []⟩ (.none _ _ (fun _ => rfl)) (hLW w hb) (by unfold maxLen; simp) (by unfold maxLen; simp)
        by_cases hc : checkE ⟨3, 0, [], [], 0, 0, a, b, c, 0, 0, []⟩ = 0
        · have HG := Lib.hid (show getEP l = some ⟨3, 0, [], [], 0, 0, a, b, c, 0, 0, []⟩ by simp [getEP, hr, hn, finE, hc])
          rw [hc] at C
          simp only at C
          clear hr hn hc hm hA
          go_enter Tryd.func37, Tryd.ntmps37
          go_wp2_with (first | (first | go_big_skip | ((with_reducible apply wpList_loadAll HO); exact rfl; exact rfl; (repeat (with_reducible (first | exact At.head _ | apply At.tail))); infer_instance; exact rfl; exact rfl; (simp only [Act.put, List.setIfInBounds_toArray, List.set_cons_succ, List.set_cons_zero])) | ((with_reducible apply wpList_loadOne HO); exact rfl; exact rfl; (repeat (with_reducible (first | exact At.head _ | apply At.tail))); exact rfl; infer_instance; exact rfl; (simp only [Act.put, List.setIfInBounds_toArray, List.set_cons_succ, List.set_cons_zero]))) | ((with_reducible apply wpList_storeAll HO); exact rfl; exact rfl; exact rfl; (repeat (with_reducible (first | exact At.head _ | apply At.tail))); infer_instance; exact rfl; exact rfl; exact rfl; exact rfl; clear HO; intro w HO; (simp only [Act.put])) | ((with_reducible apply wpList_storePart HO); exact rfl; exact rfl; (first | (simp [Act.eval]; rfl) | exact rfl); exact rfl; (repeat (with_reducible (first | exact At.head _ | apply At.tail))); infer_instance; exact rfl; exact (by simp); (simp only [putL, List.drop_succ_cons, List.drop_zero, List.take_succ_cons, List.take_zero, List.length_cons, List.length_nil, List.cons_append, List.nil_append, List.append_nil, Nat.reduceAdd]; rfl); exact rfl; exact rfl; clear HO; intro w HO; (simp only [Act.put])) | ((have _h : Own W _ (box _ _ :: _) := HO); clear _h; ((with_reducible apply wpList_allocAgg _ HO rfl); exact rfl; infer_instance; exact rfl; clear HO; intro b7 w HO; (simp only [Act.put, List.setIfInBounds_toArray, List.set_cons_succ, List.set_cons_zero]))) | ((with_reducible apply wpList_allocAgg _ HO rfl); exact rfl; infer_instance; exact rfl; clear HO; intro b2 w HO; (simp only [Act.put, List.setIfInBounds_toArray, List.set_cons_succ, List.set_cons_zero])) | (go_at_call 65; go_must ((with_reducible refine (hR _).mono ?_); rintro e w ⟨rfl, hb⟩; replace HO := HO.call hb; clear hb)) | (go_at_call 67; go_must ((with_reducible refine (N HO).mono ?_); rintro e w ⟨v1, rfl, HO1⟩; clear HO; have HO := HO1; clear HO1; obtain ⟨q1, c1, rfl⟩ := (HO.rowForm (.head _)).2 (by simp); simp only [List.length_map, List.length_cons, List.length_nil, Nat.zero_add, Nat.reduceAdd] at HO ⊢)) | fail)
          refine region_sched2 ([row 3 1 (.slice (some q1) 3 c1) ([a, b, c].map natC)]) [(0, true), (1, true), (2, true), (3, true), (4, true), (5, true), (6, true), (7, true), (8, true), (9, true), (10, true), (11, false), (12, true), (13, false)] HO (by with_reducible (repeat (first | exact List.nil_sublist _ | apply List.Sublist.cons_cons | apply List.Sublist.cons))) (by kernel_rfl) (by kernel_rfl) ?_
          clear HO
          intro w HO
          repeat (first | ((with_reducible apply wpSched_loadAt1); exact rfl; exact rfl; exact rfl; exact (fun w' hw => hw.rowAt0 (by (repeat (with_reducible (first | exact At.head _ | apply At.tail)))) (natLen [a, b, c]) rfl); infer_instance; exact rfl; (simp only [Act.put, List.setIfInBounds_toArray, List.set_cons_succ, List.set_cons_zero])) | ((with_reducible apply wpSched_loadAt1); exact rfl; exact rfl; exact rfl; exact (fun w' hw => hw.rowAtS (i := 0) (by (repeat (with_reducible (first | exact At.head _ | apply At.tail)))) (natLen [a, b, c]) rfl); infer_instance; exact rfl; (simp only [Act.put, List.setIfInBounds_toArray, List.set_cons_succ, List.set_cons_zero])) | ((with_reducible apply wpSched_loadAt1); exact rfl; exact rfl; exact rfl; exact (fun w' hw => hw.rowAtS (i := 1) (by (repeat (with_reducible (first | exact At.head _ | apply At.tail)))) (natLen [a, b, c]) rfl); infer_instance; exact rfl; (simp only [Act.put, List.setIfInBounds_toArray, List.set_cons_succ, List.set_cons_zero])) | ((with_reducible apply wpSched_pure); exact rfl; exact rfl; (intro w'; go_simp; try with_reducible rfl); (simp only [Act.put, List.setIfInBounds_toArray, List.set_cons_succ, List.set_cons_zero])))
          ((with_reducible apply wpSched_loud); exact rfl; ((with_reducible apply wpList_storePart HO); exact rfl; exact rfl; (first | (simp [Act.eval]; rfl) | exact rfl); exact rfl; (repeat (with_reducible (first | exact At.head _ | apply At.tail))); infer_instance; exact rfl; exact (by simp); (simp only [putL, List.drop_succ_cons, List.drop_zero, List.take_succ_cons, List.take_zero, List.length_cons, List.length_nil, List.cons_append, List.nil_append, List.append_nil, Nat.reduceAdd]; rfl); exact rfl; exact rfl; clear HO; intro w HO; (simp only [Act.put])))
          refine wpList_nil (thenQ_keep (HO.held (by with_reducible (repeat (first | exact List.nil_sublist _ | apply List.Sublist.cons_cons | apply List.Sublist.cons)))) ?_)
          ((with_reducible apply wpSched_pure); exact rfl; exact rfl; (intro w'; go_simp; try with_reducible rfl); (simp only [Act.put, List.setIfInBounds_toArray, List.set_cons_succ, List.set_cons_zero]))
          ((with_reducible apply wpSched_loud); exact rfl; ((with_reducible apply wpList_storeOne HO); exact rfl; exact rfl; (first | (simp [Act.eval]; rfl) | exact rfl); exact rfl; (repeat (with_reducible (first | exact At.head _ | apply At.tail))); infer_instance; exact (by simp); (simp only [List.set_cons_succ, List.set_cons_zero]; rfl); exact rfl; clear HO; intro w HO; (simp only [Act.put])))
          refine wpList_nil (thenQ_keep (HO.held (by with_reducible (repeat (first | exact List.nil_sublist _ | apply List.Sublist.cons_cons | apply List.Sublist.cons)))) ?_)
          refine wpSched_end ?_
          go_wp2_with (first | (first | go_big_skip | ((with_reducible apply wpList_loadAll HO); exact rfl; exact rfl; (repeat (with_reducible (first | exact At.head _ | apply At.tail))); infer_instance; exact rfl; exact rfl; (simp only [Act.put, List.setIfInBounds_toArray, List.set_cons_succ, List.set_cons_zero])) | ((with_reducible apply wpList_loadOne HO); exact rfl; exact rfl; (repeat (with_reducible (first | exact At.head _ | apply At.tail))); exact rfl; infer_instance; exact rfl; (simp only [Act.put, List.setIfInBounds_toArray, List.set_cons_succ, List.set_cons_zero]))) | ((with_reducible apply wpList_storeAll HO); exact rfl; exact rfl; exact rfl; (repeat (with_reducible (first | exact At.head _ | apply At.tail))); infer_instance; exact rfl; exact rfl; exact rfl; exact rfl; clear HO; intro w HO; (simp only [Act.put])) | ((with_reducible apply wpList_storePart HO); exact rfl; exact rfl; (first | (simp [Act.eval]; rfl) | exact rfl); exact rfl; (repeat (with_reducible (first | exact At.head _ | apply At.tail))); infer_instance; exact rfl; exact (by simp); (simp only [putL, List.drop_succ_cons, List.drop_zero, List.take_succ_cons, List.take_zero, List.length_cons, List.length_nil, List.cons_append, List.nil_append, List.append_nil, Nat.reduceAdd]; rfl); exact rfl; exact rfl; clear HO; intro w HO; (simp only [Act.put])) | ((have _h : Own W _ (box _ _ :: _) := HO); clear _h; ((with_reducible apply wpList_allocAgg _ HO rfl); exact rfl; infer_instance; exact rfl; clear HO; intro b7 w HO; (simp only [Act.put, List.setIfInBounds_toArray, List.set_cons_succ, List.set_cons_zero]))) | ((with_reducible apply wpList_allocAgg _ HO rfl); exact rfl; infer_instance; exact rfl; clear HO; intro b2 w HO; (simp only [Act.put, List.setIfInBounds_toArray, List.set_cons_succ, List.set_cons_zero])) | (go_at_call 65; go_must ((with_reducible refine (hR _).mono ?_); rintro e w ⟨rfl, hb⟩; replace HO := HO.call hb; clear hb)) | (go_at_call 39; go_must ((with_reducible refine (C _ HO.grown).mono ?_); rintro e w ⟨rfl, hb⟩; replace HO := HO.call hb; clear hb)))
          refine bodyPost_ret (results_box HO rfl rfl (by (repeat (with_reducible (first | exact At.head _ | apply At.tail)))) inferInstance rfl rfl) rfl ?_
          rw [HG.out]
          exact ⟨_, rfl, (HO.tail.tail.tail).nil 45 5⟩
        · have HG := Lib.hid (show getEP l = none by simp [getEP, hr, hn, finE, hc])
          generalize checkE ⟨3, 0, [], [], 0, 0, a, b, c, 0, 0, []⟩ = e at *
          simp only at C
          have e1 : (e == 0) = false := by simpa using hc
          have e2 : (e != 0) = true := by simpa using hc
          clear hr hn hc hm hA
          go_enter Tryd.func37, Tryd.ntmps37
          go_wp2_with (first | (first | go_big_skip | ((with_reducible apply wpList_loadAll HO); exact rfl; exact rfl; (repeat (with_reducible (first | exact At.head _ | apply At.tail))); infer_instance; exact rfl; exact rfl; (simp only [Act.put, List.setIfInBounds_toArray, List.set_cons_succ, List.set_cons_zero])) | ((with_reducible apply wpList_loadOne HO); exact rfl; exact rfl; (repeat (with_reducible (first | exact At.head _ | apply At.tail))); exact rfl; infer_instance; exact rfl; (simp only [Act.put, List.setIfInBounds_toArray, List.set_cons_succ, List.set_cons_zero]))) | ((with_reducible apply wpList_storeAll HO); exact rfl; exact rfl; exact rfl; (repeat (with_reducible (first | exact At.head _ | apply At.tail))); infer_instance; exact rfl; exact rfl; exact rfl; exact rfl; clear HO; intro w HO; (simp only [Act.put])) | ((with_reducible apply wpList_storePart HO); exact rfl; exact rfl; (first | (simp [Act.eval]; rfl) | exact rfl); exact rfl; (repeat (with_reducible (first | exact At.head _ | apply At.tail))); infer_instance; exact rfl; exact (by simp); (simp only [putL, List.drop_succ_cons, List.drop_zero, List.take_succ_cons, List.take_zero, List.length_cons, List.length_nil, List.cons_append, List.nil_append, List.append_nil, Nat.reduceAdd]; rfl); exact rfl; exact rfl; clear HO; intro w HO; (simp only [Act.put])) | ((have _h : Own W _ (box _ _ :: _) := HO); clear _h; ((with_reducible apply wpList_allocAgg _ HO rfl); exact rfl; infer_instance; exact rfl; clear HO; intro b7 w HO; (simp only [Act.put, List.setIfInBounds_toArray, List.set_cons_succ, List.set_cons_zero]))) | ((with_reducible apply wpList_allocAgg _ HO rfl); exact rfl; infer_instance; exact rfl; clear HO; intro b2 w HO; (simp only [Act.put, List.setIfInBounds_toArray, List.set_cons_succ, List.set_cons_zero])) | (go_at_call 65; go_must ((with_reducible refine (hR _).mono ?_); rintro e w ⟨rfl, hb⟩; replace HO := HO.call hb; clear hb)) | (go_at_call 67; go_must ((with_reducible refine (N HO).mono ?_); rintro e w ⟨v1, rfl, HO1⟩; clear HO; have HO := HO1; clear HO1; obtain ⟨q1, c1, rfl⟩ := (HO.rowForm (.head _)).2 (by simp); simp only [List.length_map, List.length_cons, List.length_nil, Nat.zero_add, Nat.reduceAdd] at HO ⊢)) | fail)
          refine region_sched2 ([row 3 1 (.slice (some q1) 3 c1) ([a, b, c].map natC)]) [(0, true), (1, true), (2, true), (3, true), (4, true), (5, true), (6, true), (7, true), (8, true), (9, true), (10, true), (11, false), (12, true), (13, false)] HO (by with_reducible (repeat (first | exact List.nil_sublist _ | apply List.Sublist.cons_cons | apply List.Sublist.cons))) (by kernel_rfl) (by kernel_rfl) ?_
          clear HO
          intro w HO
          repeat (first | ((with_reducible apply wpSched_loadAt1); exact rfl; exact rfl; exact rfl; exact (fun w' hw => hw.rowAt0 (by (repeat (with_reducible (first | exact At.head _ | apply At.tail)))) (natLen [a, b, c]) rfl); infer_instance; exact rfl; (simp only [Act.put, List.setIfInBounds_toArray, List.set_cons_succ, List.set_cons_zero])) | ((with_reducible apply wpSched_loadAt1); exact rfl; exact rfl; exact rfl; exact (fun w' hw => hw.rowAtS (i := 0) (by (repeat (with_reducible (first | exact At.head _ | apply At.tail)))) (natLen [a, b, c]) rfl); infer_instance; exact rfl; (simp only [Act.put, List.setIfInBounds_toArray, List.set_cons_succ, List.set_cons_zero])) | ((with_reducible apply wpSched_loadAt1); exact rfl; exact rfl; exact rfl; exact (fun w' hw => hw.rowAtS (i := 1) (by (repeat (with_reducible (first | exact At.head _ | apply At.tail)))) (natLen [a, b, c]) rfl); infer_instance; exact rfl; (simp only [Act.put, List.setIfInBounds_toArray, List.set_cons_succ, List.set_cons_zero])) | ((with_reducible apply wpSched_pure); exact rfl; exact rfl; (intro w'; go_simp; try with_reducible rfl); (simp only [Act.put, List.setIfInBounds_toArray, List.set_cons_succ, List.set_cons_zero])))
          ((with_reducible apply wpSched_loud); exact rfl; ((with_reducible apply wpList_storePart HO); exact rfl; exact rfl; (first | (simp [Act.eval]; rfl) | exact rfl); exact rfl; (repeat (with_reducible (first | exact At.head _ | apply At.tail))); infer_instance; exact rfl; exact (by simp); (simp only [putL, List.drop_succ_cons, List.drop_zero, List.take_succ_cons, List.take_zero, List.length_cons, List.length_nil, List.cons_append, List.nil_append, List.append_nil, Nat.reduceAdd]; rfl); exact rfl; exact rfl; clear HO; intro w HO; (simp only [Act.put])))
          refine wpList_nil (thenQ_keep (HO.held (by with_reducible (repeat (first | exact List.nil_sublist _ | apply List.Sublist.cons_cons | apply List.Sublist.cons)))) ?_)
          ((with_reducible apply wpSched_pure); exact rfl; exact rfl; (intro w'; go_simp; try with_reducible rfl); (simp only [Act.put, List.setIfInBounds_toArray, List.set_cons_succ, List.set_cons_zero]))
          ((with_reducible apply wpSched_loud); exact rfl; ((with_reducible apply wpList_storeOne HO); exact rfl; exact rfl; (first | (simp [Act.eval]; rfl) | exact rfl); exact rfl; (repeat (with_reducible (first | exact At.head _ | apply At.tail))); infer_instance; exact (by simp); (simp only [List.set_cons_succ, List.set_cons_zero]; rfl); exact rfl; clear HO; intro w HO; (simp only [Act.put])))
          refine wpList_nil (thenQ_keep (HO.held (by with_reducible (repeat (first | exact List.nil_sublist _ | apply List.Sublist.cons_cons | apply List.Sublist.cons)))) ?_)
          refine wpSched_end ?_
          go_wp2_with (first | (first | go_big_skip | ((with_reducible apply wpList_loadAll HO); exact rfl; exact rfl; (repeat (with_reducible (first | exact At.head _ | apply At.tail))); infer_instance; exact rfl; exact rfl; (simp only [Act.put, List.setIfInBounds_toArray, List.set_cons_succ, List.set_cons_zero])) | ((with_reducible apply wpList_loadOne HO); exact rfl; exact rfl; (repeat (with_reducible (first | exact At.head _ | apply At.tail))); exact rfl; infer_instance; exact rfl; (simp only [Act.put, List.setIfInBounds_toArray, List.set_cons_succ, List.set_cons_zero]))) | ((with_reducible apply wpList_storeAll HO); exact rfl; exact rfl; exact rfl; (repeat (with_reducible (first | exact At.head _ | apply At.tail))); infer_instance; exact rfl; exact rfl; exact rfl; exact rfl; clear HO; intro w HO; (simp only [Act.put])) | ((with_reducible apply wpList_storePart HO); exact rfl; exact rfl; (first | (simp [Act.eval]; rfl) | exact rfl); exact rfl; (repeat (with_reducible (first | exact At.head _ | apply At.tail))); infer_instance; exact rfl; exact (by simp); (simp only [putL, List.drop_succ_cons, List.drop_zero, List.take_succ_cons, List.take_zero, List.length_cons, List.length_nil, List.cons_append, List.nil_append, List.append_nil, Nat.reduceAdd]; rfl); exact rfl; exact rfl; clear HO; intro w HO; (simp only [Act.put])) | ((have _h : Own W _ (box _ _ :: _) := HO); clear _h; ((with_reducible apply wpList_allocAgg _ HO rfl); exact rfl; infer_instance; exact rfl; clear HO; intro b7 w HO; (simp only [Act.put, List.setIfInBounds_toArray, List.set_cons_succ, List.set_cons_zero]))) | ((with_reducible apply wpList_allocAgg _ HO rfl); exact rfl; infer_instance; exact rfl; clear HO; intro b2 w HO; (simp only [Act.put, List.setIfInBounds_toArray, List.set_cons_succ, List.set_cons_zero])) | (go_at_call 65; go_must ((with_reducible refine (hR _).mono ?_); rintro e w ⟨rfl, hb⟩; replace HO := HO.call hb; clear hb)) | (go_at_call 39; go_must ((with_reducible refine (C _ HO.grown).mono ?_); rintro e w ⟨rfl, hb⟩; replace HO := HO.call hb; clear hb)))
          refine bodyPost_ret (results_box HO rfl rfl (by (repeat (with_reducible (first | exact At.head _ | apply At.tail)))) inferInstance rfl rfl) rfl ?_
          rw [HG.out]
          exact ⟨rfl, HO.tail.tail.tail⟩
    · have N : ∀ {w : World} {L' : List Ent}, Own W w L' → Calls Tryd.prog 68 #[.string ⟨r.toArray⟩] w (StmtPost (getP r) W L') := fun h => rowsGet_any r (by unfold maxLen; omega) h hL
      unfold StmtPost at N
      cases hn : getP r with
      | none =>
        have HG := Lib.hid (show getEP l = none by simp [getEP, hr, hn])
        rw [hn] at N
        simp only at N
        clear hr hn
        go_enter Tryd.func37, Tryd.ntmps37
        go_wp2_with (first | (first | go_big_skip | ((with_reducible apply wpList_loadAll HO); exact rfl; exact rfl; (repeat (with_reducible (first | exact At.head _ | apply At.tail))); infer_instance; exact rfl; exact rfl; (simp only [Act.put, List.setIfInBounds_toArray, List.set_cons_succ, List.set_cons_zero])) | ((with_reducible apply wpList_loadOne HO); exact rfl; exact rfl; (repeat (with_reducible (first | exact At.head _ | apply At.tail))); exact rfl; infer_instance; exact rfl; (simp only [Act.put, List.setIfInBounds_toArray, List.set_cons_succ, List.set_cons_zero]))) | ((with_reducible apply wpList_storeAll HO); exact rfl; exact rfl; exact rfl; (repeat (with_reducible (first | exact At.head _ | apply At.tail))); infer_instance; exact rfl; exact rfl; exact rfl; exact rfl; clear HO; intro w HO; (simp only [Act.put])) | ((with_reducible apply wpList_storePart HO); exact rfl; exact rfl; (first | (simp [Act.eval]; rfl) | exact rfl); exact rfl; (repeat (with_reducible (first | exact At.head _ | apply At.tail))); infer_instance; exact rfl; exact (by simp); (simp only [putL, List.drop_succ_cons, List.drop_zero, List.take_succ_cons, List.take_zero, List.length_cons, List.length_nil, List.cons_append, List.nil_append, List.append_nil, Nat.reduceAdd]; rfl); exact rfl; exact rfl; clear HO; intro w HO; (simp only [Act.put])) | ((have _h : Own W _ (box _ _ :: _) := HO); clear _h; ((with_reducible apply wpList_allocAgg _ HO rfl); exact rfl; infer_instance; exact rfl; clear HO; intro b7 w HO; (simp only [Act.put, List.setIfInBounds_toArray, List.set_cons_succ, List.set_cons_zero]))) | ((with_reducible apply wpList_allocAgg _ HO rfl); exact rfl; infer_instance; exact rfl; clear HO; intro b2 w HO; (simp only [Act.put, List.setIfInBounds_toArray, List.set_cons_succ, List.set_cons_zero])) | (go_at_call 65; go_must ((with_reducible refine (hR _).mono ?_); rintro e w ⟨rfl, hb⟩; replace HO := HO.call hb; clear hb)) | (go_at_call 68; go_must ((with_reducible refine (N HO).mono ?_); rintro e w ⟨rfl, HO1⟩; clear HO; have HO := HO1; clear HO1)))
        refine bodyPost_ret (results_box HO rfl rfl (by (repeat (with_reducible (first | exact At.head _ | apply At.tail)))) inferInstance rfl rfl) rfl ?_
        rw [HG.out]
        exact ⟨rfl, HO.tail.tail⟩
      | some x =>
        obtain ⟨p, q, rs⟩ := x
        have HG := Lib.hid (show getEP l = some ⟨4, 0, [], [], 0, 0, 0, 0, 0, p, q, rs⟩ by simp [getEP, hr, hn])
        have hok := (getP_iff.1 hn).1
        have C := fun {w : World} {v : Value} (h : IsRows w v rs) (hb : Below W.heap.size W w) => entCheck_any (W := w) (v := v) ⟨4, 0, [], [], 0, 0, 0, 0, 0, p, q, rs⟩ h (hLW w hb) (by unfold maxLen; simp) (by unfold maxLen; simp)
        rw [show checkE ⟨4, 0, [], [], 0, 0, 0, 0, 0, p, q, rs⟩ = 0 by simp [checkE, hok]] at C
        rw [hn] at N
        simp only at N C
        clear hr hn hok
        go_enter Tryd.func37, Tryd.ntmps37
        go_wp2_with (first | (first | go_big_skip | ((with_reducible apply wpList_loadAll HO); exact rfl; exact rfl; (repeat (with_reducible (first | exact At.head _ | apply At.tail))); infer_instance; exact rfl; exact rfl; (simp only [Act.put, List.setIfInBounds_toArray, List.set_cons_succ, List.set_cons_zero])) | ((with_reducible apply wpList_loadOne HO); exact rfl; exact rfl; (repeat (with_reducible (first | exact At.head _ | apply At.tail))); exact rfl; infer_instance; exact rfl; (simp only [Act.put, List.setIfInBounds_toArray, List.set_cons_succ, List.set_cons_zero]))) | ((with_reducible apply wpList_storeAll HO); exact rfl; exact rfl; exact rfl; (repeat (with_reducible (first | exact At.head _ | apply At.tail))); infer_instance; exact rfl; exact rfl; exact rfl; exact rfl; clear HO; intro w HO; (simp only [Act.put])) | ((with_reducible apply wpList_storePart HO); exact rfl; exact rfl; (first | (simp [Act.eval]; rfl) | exact rfl); exact rfl; (repeat (with_reducible (first | exact At.head _ | apply At.tail))); infer_instance; exact rfl; exact (by simp); (simp only [putL, List.drop_succ_cons, List.drop_zero, List.take_succ_cons, List.take_zero, List.length_cons, List.length_nil, List.cons_append, List.nil_append, List.append_nil, Nat.reduceAdd]; rfl); exact rfl; exact rfl; clear HO; intro w HO; (simp only [Act.put])) | ((have _h : Own W _ (box _ _ :: _) := HO); clear _h; ((with_reducible apply wpList_allocAgg _ HO rfl); exact rfl; infer_instance; exact rfl; clear HO; intro b7 w HO; (simp only [Act.put, List.setIfInBounds_toArray, List.set_cons_succ, List.set_cons_zero]))) | ((with_reducible apply wpList_allocAgg _ HO rfl); exact rfl; infer_instance; exact rfl; clear HO; intro b2 w HO; (simp only [Act.put, List.setIfInBounds_toArray, List.set_cons_succ, List.set_cons_zero])) | (go_at_call 65; go_must ((with_reducible refine (hR _).mono ?_); rintro e w ⟨rfl, hb⟩; replace HO := HO.call hb; clear hb)) | (go_at_call 68; go_must ((with_reducible refine (N HO).mono ?_); rintro e w ⟨v1, rfl, HO1⟩; clear HO; have HO := HO1; clear HO1; obtain ⟨⟨p1, c1, rfl⟩, -⟩ := HO.rowForm (.head _); rw [List.length_map] at HO ⊢)) | (go_at_call 39; go_must ((with_reducible refine (C (ownRows HO (.head _)) HO.grown).mono ?_); rintro e w ⟨rfl, hb⟩; replace HO := HO.call hb; clear hb)))
        refine bodyPost_ret (results_box HO rfl rfl (by (repeat (with_reducible (first | exact At.head _ | apply At.tail)))) inferInstance rfl rfl) rfl ?_
        rw [HG.out]
        exact ⟨_, rfl, HO.sub (by exact .cons_cons _ (.cons _ (.cons _ (List.Sublist.refl _))))⟩
    · have HG := Lib.hid (show getEP l = none by simp [getEP, hr, show k ≠ 1 by omega, show k ≠ 2 by omega, show k ≠ 3 by omega, show k ≠ 4 by omega])
      have hk4 : (4 : Int) < (k : Int) := by omega
      have hk1 : ¬ (k : Int) < 1 := by omega
      clear hr
      go_enter Tryd.func37, Tryd.ntmps37
      go_wp2_with (first | (first | go_big_skip | ((with_reducible apply wpList_loadAll HO); exact rfl; exact rfl; (repeat (with_reducible (first | exact At.head _ | apply At.tail))); infer_instance; exact rfl; exact rfl; (simp only [Act.put, List.setIfInBounds_toArray, List.set_cons_succ, List.set_cons_zero])) | ((with_reducible apply wpList_loadOne HO); exact rfl; exact rfl; (repeat (with_reducible (first | exact At.head _ | apply At.tail))); exact rfl; infer_instance; exact rfl; (simp only [Act.put, List.setIfInBounds_toArray, List.set_cons_succ, List.set_cons_zero]))) | ((with_reducible apply wpList_storeAll HO); exact rfl; exact rfl; exact rfl; (repeat (with_reducible (first | exact At.head _ | apply At.tail))); infer_instance; exact rfl; exact rfl; exact rfl; exact rfl; clear HO; intro w HO; (simp only [Act.put])) | ((with_reducible apply wpList_allocAgg _ HO rfl); exact rfl; infer_instance; exact rfl; clear HO; intro b2 w HO; (simp only [Act.put, List.setIfInBounds_toArray, List.set_cons_succ, List.set_cons_zero])) | (go_at_call 65; go_must ((with_reducible refine (hR _).mono ?_); rintro e w ⟨rfl, hb⟩; replace HO := HO.call hb; clear hb)))
      refine bodyPost_ret (results_box HO rfl rfl (by (repeat (with_reducible (first | exact At.head _ | apply At.tail)))) inferInstance rfl rfl) rfl ?_
      rw [HG.out]
      exact ⟨rfl, HO.tail⟩
end Go.Proofs.YtlfphfklcifgpaaDoor

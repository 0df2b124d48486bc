/-
  A posting posted, by walking the program's text; conditions: int64 numbers, less than 100000 postings.
  What bits.Var and its kin compute, by walking their text; conditions: numbers below 2^63.
  What bits.Read and its kin compute, by walking their text; conditions: none.
  What the document's functions on bits compute, by walking their text: the same; conditions: none.
  What the functions on names compute, by walking their text; conditions: none.
  What is wrong with an order, by walking both texts; conditions: texts no longer than memory bears.
  What the functions on keys compute, by walking their text; conditions: the table of parties holds what the text lays.
  What the functions on orders compute, by walking their text; conditions: texts no longer than memory bears.
  What the reader of orders does, by walking its text; conditions: it lies in memory, apart from what the calls make.
  The order of some bytes: the plain law of getting and putting, and what Get computes, by walking its text; conditions: texts no longer than memory bears.
  What the reader of rows does, by walking its text; conditions: its two cells lie in memory of the caller's own.
  All numbers that stand one behind the other, by walking the document's text; conditions: none.
  The table of parties, seen from within a drawn region; conditions: none.
  Whether there may be a row of a party, by walking the text; conditions: the table of parties as laid.
  sum 11ffc85e7a3e7c5fcda7819666e7ca7dc9adfe5d
-/
import Derived.Test.YtibabfedpdoofaaDoorRows
import Derived.Deep.RegionWith
import Derived.Test.YtibabfedpdoofaaDoorPt1
import Derived.Test.YtibabfedpdoofaaDoorPt2
import Derived.Test.YtibabfedpdoofaaDoorPt3
namespace Go.Proofs.YtibabfedpdoofaaDoor
open Go.RowKit Go.Own Go.Maps

theorem findP_snoc (l : List Pst) (p : Pst) (s : ByteArray) : findP (l ++ [p]) s = (findP l s).or (if p.id = s then some p else none) := by
  unfold findP
  rw [List.find?_append]
  congr 1
  simp only [List.find?_cons, List.find?_nil]
  by_cases h : p.id = s <;> simp [h]
theorem idOk_snoc {l : List Pst} {f : Lit → Option Value} {p : Pst} (h : idOk l f) (hn : findP l p.id = none) : idOk (l ++ [p]) (updF f (.string p.id.data.toList) (pstV p)) := by
  intro s hs
  rw [findP_snoc]
  unfold updF
  by_cases e : p.id = s
  · subst e
    rw [if_pos (WideAt.sameKey_self (show WideAt.IsKeyLit (.string _) from trivial)), hn, if_pos rfl]
    rfl
  · have hk : Lit.sameKey (.string s.data.toList) (.string p.id.data.toList) = false := by
      cases hc : Lit.sameKey (.string s.data.toList) (.string p.id.data.toList) with
      | false => rfl
      | true =>
        have h1 := WideAt.sameKey_eq hc
        simp only [Lit.string.injEq] at h1
        exact absurd (by
          obtain ⟨⟨a⟩⟩ := s
          cases p with
          | mk id o d c a2 =>
            obtain ⟨⟨b⟩⟩ := id
            simpa using h1.symm) e
    rw [hk, if_neg e, h s hs]
    simp
set_option maxRecDepth 100000 in
theorem updF_slot {f : Lit → Option Value} {v : Value} {n o n' o' : Int} (h1 : inI n = true) (h2 : inI o = true) (h1' : inI n' = true) (h2' : inI o' = true) : updF f (slotLit n' o') v (slotLit n o) = if n = n' ∧ o = o' then some v else f (slotLit n o) := by
  unfold updF
  by_cases e : n = n' ∧ o = o'
  · obtain ⟨rfl, rfl⟩ := e
    rw [if_pos (WideAt.sameKey_self (slotKeyed.key (slotOf_lit h1 h2))), if_pos ⟨rfl, rfl⟩]
  · have hk : (slotLit n o).sameKey (slotLit n' o') = false := by
      cases hc : (slotLit n o).sameKey (slotLit n' o') with
      | false => rfl
      | true => exact absurd (slotLit_inj h1 h2 h1' h2' (WideAt.sameKey_eq hc)) e
    rw [hk, if_neg e]
    simp
set_option maxRecDepth 100000 in
theorem BalOk_snoc {l : List Pst} {g : Lit → Option Value} {p : Pst} (h : BalOk l g) (hw : WfP p) (hm : mayPst p = true) : BalOk (l ++ [p]) (mergeF g (movesF l p)) := by
  intro n o hn ho
  have hm := mayPst_iff.1 hm
  have hg := h n o hn ho
  have z0 : inI 0 = true := rfl
  rw [bal_snoc]
  unfold mergeF movesF
  rw [updF_slot hn ho hw.c hw.o, updF_slot hn ho hw.d hw.o, updF_slot hn ho hw.c z0, updF_slot hn ho hw.d z0]
  unfold delta
  by_cases c1 : n = p.c ∧ o = p.o
  · obtain ⟨rfl, rfl⟩ := c1
    rw [if_pos ⟨rfl, rfl⟩]
    simp only [Option.getD_some, Value.int.injEq, true_and]
    rw [if_neg (by omega), if_neg (by omega), if_pos trivial]; omega
  rw [if_neg c1]
  by_cases c2 : n = p.d ∧ o = p.o
  · obtain ⟨rfl, rfl⟩ := c2
    rw [if_pos ⟨rfl, rfl⟩]
    simp only [Option.getD_some, Value.int.injEq, true_and]
    rw [if_neg (by omega), if_pos trivial]
  rw [if_neg c2]
  by_cases c3 : n = p.c ∧ o = 0
  · obtain ⟨rfl, rfl⟩ := c3
    rw [if_pos ⟨rfl, rfl⟩]
    simp only [Option.getD_some, Value.int.injEq, true_and]
    rw [if_neg (by omega), if_neg (by omega), if_pos trivial]; omega
  rw [if_neg c3]
  by_cases c4 : n = p.d ∧ o = 0
  · obtain ⟨rfl, rfl⟩ := c4
    rw [if_pos ⟨rfl, rfl⟩]
    simp only [Option.getD_some, Value.int.injEq, true_and]
    rw [if_neg (by omega), if_pos trivial]
  rw [if_neg c4]
  have e : (if o ≠ 0 ∧ p.o ≠ o then (0 : Int) else if p.d = n then p.a else if p.c = n then -p.a else 0) = 0 := by
    split
    · rfl
    · rename_i hc
      rw [if_neg (by omega), if_neg (by omega)]
  rw [e, Int.add_zero]
  exact hg
theorem movesF_int (l : List Pst) (p : Pst) : ∀ k v, movesF l p k = some v → ∃ x, v = .int .i64 x := by
  intro k v h
  unfold movesF updF at h
  repeat' split at h
  all_goals first | (cases h; exact ⟨_, rfl⟩) | cases h
theorem pstC_len (l : List Pst) : ∀ x ∈ l.map pstC, x.length = 5 := fun x hx => by
  obtain ⟨p, _, rfl⟩ := List.mem_map.1 hx
  rfl
theorem Own.bkOf {W w : World} {L : List Ent} {b : Nat} {v : Value} {pm bm n k : Nat} {l : List Pst} {f g : Lit → Option Value} (h : Own W w L) (h1 : box b (.cells [v, .map (some pm), .map (some bm)].toArray 102) ∈ L) (h2 : row 111 5 v (l.map pstC) ∈ L)
    (h3 : mapE Tryd.prog 9 pm n f ∈ L) (h4 : mapE Tryd.prog 117 bm k g ∈ L) (hn : n ≤ l.length) (hf : idOk l f) (hk : k ≤ 4 * l.length) (hg : BalOk l g) : BkAt w b v pm bm l :=
  ⟨h.has _ h1, h.has _ h2, ⟨n, f, h.has _ h3, hn, hf⟩, ⟨k, g, h.has _ h4, hk, hg⟩⟩
theorem run_pst_eql (p q : Pst) (w : World) : (binOp .eql 111 (.agg #[.string p.id, .int .i64 p.o, .int .i64 p.d, .int .i64 p.c, .int .i64 p.a]) (.agg #[.string q.id, .int .i64 q.o, .int .i64 q.d, .int .i64 q.c, .int .i64 q.a])).run Tryd.prog w = .ok (.bool (decide (p = q))) w := by
  obtain ⟨s, a, b, c, d⟩ := p
  obtain ⟨s', a', b', c', d'⟩ := q
  go_simp
  have hs : s.toList = s'.toList ↔ s = s' := by
    rw [ByteArray.toList_eq, ByteArray.toList_eq]
    obtain ⟨⟨x⟩⟩ := s
    obtain ⟨⟨y⟩⟩ := s'
    simp
  simp only [hs]
  (repeat' split) <;> simp_all

theorem run_pst_neq (p q : Pst) (w : World) : (binOp .neq 111 (.agg #[.string p.id, .int .i64 p.o, .int .i64 p.d, .int .i64 p.c, .int .i64 p.a]) (.agg #[.string q.id, .int .i64 q.o, .int .i64 q.d, .int .i64 q.c, .int .i64 q.a])).run Tryd.prog w = .ok (.bool (!decide (p = q))) w := by
  obtain ⟨s, a, b, c, d⟩ := p
  obtain ⟨s', a', b', c', d'⟩ := q
  go_simp
  have hs : s.toList = s'.toList ↔ s = s' := by
    rw [ByteArray.toList_eq, ByteArray.toList_eq]
    obtain ⟨⟨x⟩⟩ := s
    obtain ⟨⟨y⟩⟩ := s'
    simp
  simp only [hs]
  (repeat' split) <;> simp_all

set_option maxHeartbeats 16000000 in
set_option maxRecDepth 100000 in
theorem bkPost_own {W w : World} {M : List Ent} {b : Nat} {v : Value} {pm bm : Nat} {l : List Pst} (p : Pst) (HO : Own W w (bkPs b v pm bm l ++ M)) (hB : Bk l) (hp : WfP p) (hlen : l.length ≤ 100000) :
    Calls Tryd.prog 49 #[.pointer (some ⟨b, 0, none⟩), pstV p] w fun e w' => e = .returned (.int .i64 (postE l p)) ∧ ∃ v', Own W w' (bkPs b v' pm bm (postL l p) ++ M) := by
  replace HO : Own W w (box b (.cells [v, .map (some pm), .map (some bm)].toArray 102) :: row 111 5 v (l.map pstC) :: idE pm l :: balE bm l :: M) := HO
  obtain ⟨n1, f, hn1, hf, HO1⟩ := Own.idOpen HO (fun n f => .tail _ _ _ (.tail _ _ _ (.head _)))
  obtain ⟨n2, g, hn2, hg, HO2⟩ := Own.balOpen HO1 (fun n f => .tail _ _ _ (.tail _ _ _ (.tail _ _ _ (.head _))))
  have HC := Lib.hid (fun (w : World) (h : Own W w (box b (.cells [v, .map (some pm), .map (some bm)].toArray 102) :: row 111 5 v (l.map pstC) :: mapE Tryd.prog 9 pm n1 f :: mapE Tryd.prog 117 bm n2 g :: M)) => (⟨v, Own.balClose (Own.idClose h (.tail _ _ _ (.tail _ _ _ (.head _))) hn1 hf) (.tail _ _ _ (.tail _ _ _ (.tail _ _ _ (.head _)))) hn2 hg⟩ : ∃ v', Own W w (bkPs b v' pm bm l ++ M)))
  clear HO HO1
  have HO := HO2
  clear HO2
  have MY := fun w => mayB_any p w
  have MV := fun w (h : BkAt w b v pm bm l) => bkMoves_any h p hp hB.bal_in
  have hq := hf p.id hp.s
  have hkey := WideMaps.keyOf_string_mk (P := Tryd.prog) Tryd.underlying9 hp.s
  have hlt5 : n2 + 4 < maxLen := by unfold maxLen; omega
  have hlt1 : n1 < maxLen := by unfold maxLen; omega
  have hlen1 : (l.map pstC).length + 1 ≤ 1000000 := by rw [List.length_map]; omega
  have hidn := Lib.hid (fun h => idOk_snoc (p := p) hf h)
  have hbaln := Lib.hid (fun h => BalOk_snoc hg hp h)
  have hEq := fun q w => run_pst_eql q p w
  cases hm : mayPst p
  · have e1 : postE l p = 2 := by simp [postE, hm]
    have e2 : postL l p = l := by simp [postL, hm]
    rw [e1, e2]
    rw [hm] at MY
    clear hidn hbaln hEq e1 e2 hm MV hB hp
    obtain ⟨id, o, d, c, a⟩ := p
    simp only [pstV, pstC] at *
    go_enter Tryd.func49, Tryd.ntmps49
    go_wp2_with (first | (first | go_big_skip | ((with_reducible apply wpList_loadAll HO); exact rfl; exact rfl; (repeat (with_reducible (first | exact At.head _ | apply At.tail))); infer_instance; exact rfl; exact rfl; (simp only [Act.put, List.setIfInBounds_toArray, List.set_cons_succ, List.set_cons_zero])) | ((with_reducible apply wpList_loadOne HO); exact rfl; exact rfl; (repeat (with_reducible (first | exact At.head _ | apply At.tail))); exact rfl; infer_instance; exact rfl; (simp only [Act.put, List.setIfInBounds_toArray, List.set_cons_succ, List.set_cons_zero]))) | (first | ((with_reducible apply wpList_boxAgg _ HO rfl); exact rfl; exact rfl; exact rfl; clear HO; intro b3 w HO; (simp only [Act.put, List.setIfInBounds_toArray, List.set_cons_succ, List.set_cons_zero])) | ((with_reducible apply wpList_allocAgg _ HO rfl); exact rfl; infer_instance; exact rfl; clear HO; intro b3 w HO; (simp only [Act.put, List.setIfInBounds_toArray, List.set_cons_succ, List.set_cons_zero]))) | (go_at_call 54; go_must ((with_reducible refine (bkNone_any (HO.boxAt (by repeat (first | exact List.mem_cons_self | apply List.mem_cons_of_mem)))).mono ?_); rintro e w ⟨rfl, hb⟩; replace HO := HO.call hb; clear hb)) | (go_at_call 59; go_must ((with_reducible refine (MY _).mono ?_); rintro e w ⟨rfl, hb⟩; replace HO := HO.call hb; clear hb)))
    go_ret
    exact ⟨rfl, HC.out _ HO.tail⟩
  rw [hm] at MY
  cases hfp : findP l p.id with
  | some q =>
    have e1 : postE l p = if q = p then 0 else 91 := by simp [postE, hm, hfp]
    have e2 : postL l p = l := by simp [postL, hfp]
    rw [e2]
    have HE := Lib.hid e1
    generalize postE l p = ex at *
    rw [hfp] at hq
    have hEq := hEq q
    clear hidn hbaln e1 e2 hm MV hB hp hfp
    generalize hx : decide (q = p) = x at *
    have HX := Lib.hid hx
    clear hx
    obtain ⟨id, o, d, c, a⟩ := p
    obtain ⟨qi, qo, qd, qc, qa⟩ := q
    simp only [pstV, pstC, Option.map_some] at *
    go_enter Tryd.func49, Tryd.ntmps49
    go_upto_region 5 with (first | (first | go_big_skip | ((with_reducible apply wpList_loadAll HO); exact rfl; exact rfl; (repeat (with_reducible (first | exact At.head _ | apply At.tail))); infer_instance; exact rfl; exact rfl; (simp only [Act.put, List.setIfInBounds_toArray, List.set_cons_succ, List.set_cons_zero])) | ((with_reducible apply wpList_loadOne HO); exact rfl; exact rfl; (repeat (with_reducible (first | exact At.head _ | apply At.tail))); exact rfl; infer_instance; exact rfl; (simp only [Act.put, List.setIfInBounds_toArray, List.set_cons_succ, List.set_cons_zero]))) | (first | ((with_reducible apply wpList_boxAgg _ HO rfl); exact rfl; exact rfl; exact rfl; clear HO; intro b3 w HO; (simp only [Act.put, List.setIfInBounds_toArray, List.set_cons_succ, List.set_cons_zero])) | ((with_reducible apply wpList_allocAgg _ HO rfl); exact rfl; infer_instance; exact rfl; clear HO; intro b3 w HO; (simp only [Act.put, List.setIfInBounds_toArray, List.set_cons_succ, List.set_cons_zero]))) | (go_at_call 54; go_must ((with_reducible refine (bkNone_any (HO.boxAt (by repeat (first | exact List.mem_cons_self | apply List.mem_cons_of_mem)))).mono ?_); rintro e w ⟨rfl, hb⟩; replace HO := HO.call hb; clear hb)) | (go_at_call 59; go_must ((with_reducible refine (MY _).mono ?_); rintro e w ⟨rfl, hb⟩; replace HO := HO.call hb; clear hb)))
    refine region_sched2 ([box b3 (.cells #[.string id, .int .i64 o, .int .i64 d, .int .i64 c, .int .i64 a] 111), box b (.cells #[v, .map (some pm), .map (some bm)] 102), mapE Tryd.prog 9 pm n1 f]) [(0, true), (1, true), (2, true), (3, true), (4, true), (5, true), (6, true), (7, true), (8, true), (9, true), (10, false), (11, false), (12, true)] HO (by with_reducible (repeat (first | exact List.nil_sublist _ | apply List.Sublist.cons_cons | apply List.Sublist.cons))) (by kernel_rfl) (by kernel_rfl) ?_
    clear HO
    intro w HO
    repeat (first | ((with_reducible apply wpSched_loadOne); exact rfl; exact rfl; exact rfl; (repeat (with_reducible (first | exact At.head _ | apply At.tail))); exact rfl; infer_instance; exact rfl; (simp only [Act.put, List.setIfInBounds_toArray, List.set_cons_succ, List.set_cons_zero])) | ((with_reducible apply wpSched_mapLook1 (kt := 9) (et := 111)); exact rfl; exact rfl; exact rfl; exact rfl; (repeat (with_reducible (first | exact At.head _ | apply At.tail))); exact strKeyed; exact Tryd.underlying98; infer_instance; exact hkey; (focus (first | (rw [hq]; done) | (rw [hq]; exact rfl))); exact rfl; (simp only [Act.put, List.setIfInBounds_toArray, List.set_cons_succ, List.set_cons_zero])) | ((with_reducible apply wpSched_pure); exact rfl; exact rfl; (intro w'; go_simp; try with_reducible rfl); (simp only [Act.put, List.setIfInBounds_toArray, List.set_cons_succ, List.set_cons_zero])))
    ((with_reducible apply wpSched_loud); exact rfl; (first | ((with_reducible apply wpList_boxAgg _ HO rfl); exact rfl; exact rfl; exact rfl; clear HO; intro b5 w HO; (simp only [Act.put, List.setIfInBounds_toArray, List.set_cons_succ, List.set_cons_zero])) | ((with_reducible apply wpList_allocAgg _ HO rfl); exact rfl; infer_instance; exact rfl; clear HO; intro b5 w HO; (simp only [Act.put, List.setIfInBounds_toArray, List.set_cons_succ, List.set_cons_zero]))))
    refine wpList_nil (thenQ_keep (HO.held (by with_reducible (repeat (first | exact List.nil_sublist _ | apply List.Sublist.cons_cons | apply List.Sublist.cons)))) ?_)
    ((with_reducible apply wpSched_loud); exact rfl; ((with_reducible apply wpList_storeAll HO); exact rfl; exact rfl; exact rfl; (repeat (with_reducible (first | exact At.head _ | apply At.tail))); infer_instance; exact rfl; exact rfl; exact rfl; exact rfl; clear HO; intro w HO; (simp only [Act.put])))
    refine wpList_nil (thenQ_keep (HO.held (by with_reducible (repeat (first | exact List.nil_sublist _ | apply List.Sublist.cons_cons | apply List.Sublist.cons)))) ?_)
    ((with_reducible apply wpSched_pure); exact rfl; exact rfl; (intro w'; go_simp; try with_reducible rfl); (simp only [Act.put, List.setIfInBounds_toArray, List.set_cons_succ, List.set_cons_zero]))
    refine wpSched_end ?_
    cases x
    · obtain rfl : ex = 91 := HE.out.trans (if_neg (of_decide_eq_false HX.out))
      go_wp2_with (first | (first | go_big_skip | ((with_reducible apply wpList_loadAll HO); exact rfl; exact rfl; (repeat (with_reducible (first | exact At.head _ | apply At.tail))); infer_instance; exact rfl; exact rfl; (simp only [Act.put, List.setIfInBounds_toArray, List.set_cons_succ, List.set_cons_zero])) | ((with_reducible apply wpList_loadOne HO); exact rfl; exact rfl; (repeat (with_reducible (first | exact At.head _ | apply At.tail))); exact rfl; infer_instance; exact rfl; (simp only [Act.put, List.setIfInBounds_toArray, List.set_cons_succ, List.set_cons_zero]))))
      go_ret
      exact ⟨rfl, HC.out _ HO.tail.tail⟩
    · obtain rfl : ex = 0 := HE.out.trans (if_pos (of_decide_eq_true HX.out))
      go_wp2_with (first | (first | go_big_skip | ((with_reducible apply wpList_loadAll HO); exact rfl; exact rfl; (repeat (with_reducible (first | exact At.head _ | apply At.tail))); infer_instance; exact rfl; exact rfl; (simp only [Act.put, List.setIfInBounds_toArray, List.set_cons_succ, List.set_cons_zero])) | ((with_reducible apply wpList_loadOne HO); exact rfl; exact rfl; (repeat (with_reducible (first | exact At.head _ | apply At.tail))); exact rfl; infer_instance; exact rfl; (simp only [Act.put, List.setIfInBounds_toArray, List.set_cons_succ, List.set_cons_zero]))))
      go_ret
      exact ⟨rfl, HC.out _ HO.tail.tail⟩
  | none =>
    have HN := Lib.hid hfp
    rw [hfp] at hq
    clear hEq
    cases hfit : fitsPst l p
    · have e1 : postE l p = 90 := by simp [postE, hm, hfp, hfit]
      have e2 : postL l p = l := by simp [postL, hfit]
      rw [e1, e2]
      simp only [MovesPost, hfit, Bool.false_eq_true, if_false] at MV
      clear hidn hbaln e1 e2 hm hB hp hfp hfit
      obtain ⟨id, o, d, c, a⟩ := p
      simp only [pstV, pstC, Option.map_none] at *
      go_enter Tryd.func49, Tryd.ntmps49
      go_upto_region 5 with (first | (first | go_big_skip | ((with_reducible apply wpList_loadAll HO); exact rfl; exact rfl; (repeat (with_reducible (first | exact At.head _ | apply At.tail))); infer_instance; exact rfl; exact rfl; (simp only [Act.put, List.setIfInBounds_toArray, List.set_cons_succ, List.set_cons_zero])) | ((with_reducible apply wpList_loadOne HO); exact rfl; exact rfl; (repeat (with_reducible (first | exact At.head _ | apply At.tail))); exact rfl; infer_instance; exact rfl; (simp only [Act.put, List.setIfInBounds_toArray, List.set_cons_succ, List.set_cons_zero]))) | (first | ((with_reducible apply wpList_boxAgg _ HO rfl); exact rfl; exact rfl; exact rfl; clear HO; intro b3 w HO; (simp only [Act.put, List.setIfInBounds_toArray, List.set_cons_succ, List.set_cons_zero])) | ((with_reducible apply wpList_allocAgg _ HO rfl); exact rfl; infer_instance; exact rfl; clear HO; intro b3 w HO; (simp only [Act.put, List.setIfInBounds_toArray, List.set_cons_succ, List.set_cons_zero]))) | (go_at_call 54; go_must ((with_reducible refine (bkNone_any (HO.boxAt (by repeat (first | exact List.mem_cons_self | apply List.mem_cons_of_mem)))).mono ?_); rintro e w ⟨rfl, hb⟩; replace HO := HO.call hb; clear hb)) | (go_at_call 59; go_must ((with_reducible refine (MY _).mono ?_); rintro e w ⟨rfl, hb⟩; replace HO := HO.call hb; clear hb)))
      refine region_sched2 ([box b3 (.cells #[.string id, .int .i64 o, .int .i64 d, .int .i64 c, .int .i64 a] 111), box b (.cells #[v, .map (some pm), .map (some bm)] 102), mapE Tryd.prog 9 pm n1 f]) [(0, true), (1, true), (2, true), (3, true), (4, true), (5, true), (6, true), (7, true), (8, true), (9, true), (10, false), (11, false), (12, true)] HO (by with_reducible (repeat (first | exact List.nil_sublist _ | apply List.Sublist.cons_cons | apply List.Sublist.cons))) (by kernel_rfl) (by kernel_rfl) ?_
      clear HO
      intro w HO
      repeat (first | ((with_reducible apply wpSched_loadOne); exact rfl; exact rfl; exact rfl; (repeat (with_reducible (first | exact At.head _ | apply At.tail))); exact rfl; infer_instance; exact rfl; (simp only [Act.put, List.setIfInBounds_toArray, List.set_cons_succ, List.set_cons_zero])) | ((with_reducible apply wpSched_mapLook1 (kt := 9) (et := 111)); exact rfl; exact rfl; exact rfl; exact rfl; (repeat (with_reducible (first | exact At.head _ | apply At.tail))); exact strKeyed; exact Tryd.underlying98; infer_instance; exact hkey; (focus (first | (rw [hq]; done) | (rw [hq]; exact rfl))); exact rfl; (simp only [Act.put, List.setIfInBounds_toArray, List.set_cons_succ, List.set_cons_zero])) | ((with_reducible apply wpSched_pure); exact rfl; exact rfl; (intro w'; go_simp; try with_reducible rfl); (simp only [Act.put, List.setIfInBounds_toArray, List.set_cons_succ, List.set_cons_zero])))
      ((with_reducible apply wpSched_loud); exact rfl; (first | ((with_reducible apply wpList_boxAgg _ HO rfl); exact rfl; exact rfl; exact rfl; clear HO; intro b5 w HO; (simp only [Act.put, List.setIfInBounds_toArray, List.set_cons_succ, List.set_cons_zero])) | ((with_reducible apply wpList_allocAgg _ HO rfl); exact rfl; infer_instance; exact rfl; clear HO; intro b5 w HO; (simp only [Act.put, List.setIfInBounds_toArray, List.set_cons_succ, List.set_cons_zero]))))
      refine wpList_nil (thenQ_keep (HO.held (by with_reducible (repeat (first | exact List.nil_sublist _ | apply List.Sublist.cons_cons | apply List.Sublist.cons)))) ?_)
      ((with_reducible apply wpSched_loud); exact rfl; ((with_reducible apply wpList_storeAll HO); exact rfl; exact rfl; exact rfl; (repeat (with_reducible (first | exact At.head _ | apply At.tail))); infer_instance; exact rfl; exact rfl; exact rfl; exact rfl; clear HO; intro w HO; (simp only [Act.put])))
      refine wpList_nil (thenQ_keep (HO.held (by with_reducible (repeat (first | exact List.nil_sublist _ | apply List.Sublist.cons_cons | apply List.Sublist.cons)))) ?_)
      ((with_reducible apply wpSched_pure); exact rfl; exact rfl; (intro w'; go_simp; try with_reducible rfl); (simp only [Act.put, List.setIfInBounds_toArray, List.set_cons_succ, List.set_cons_zero]))
      refine wpSched_end ?_
      go_wp2_with (first | (first | go_big_skip | ((with_reducible apply wpList_loadAll HO); exact rfl; exact rfl; (repeat (with_reducible (first | exact At.head _ | apply At.tail))); infer_instance; exact rfl; exact rfl; (simp only [Act.put, List.setIfInBounds_toArray, List.set_cons_succ, List.set_cons_zero])) | ((with_reducible apply wpList_loadOne HO); exact rfl; exact rfl; (repeat (with_reducible (first | exact At.head _ | apply At.tail))); exact rfl; infer_instance; exact rfl; (simp only [Act.put, List.setIfInBounds_toArray, List.set_cons_succ, List.set_cons_zero]))) | (go_at_call 60; go_must ((with_reducible refine (MV _ (Own.bkOf HO (by repeat (first | exact List.mem_cons_self | apply List.mem_cons_of_mem)) (by repeat (first | exact List.mem_cons_self | apply List.mem_cons_of_mem)) (by repeat (first | exact List.mem_cons_self | apply List.mem_cons_of_mem)) (by repeat (first | exact List.mem_cons_self | apply List.mem_cons_of_mem)) hn1 hf hn2 hg)).mono ?_); rintro e w ⟨rfl, hb⟩; replace HO := HO.call hb; clear hb)))
      go_ret
      exact ⟨rfl, HC.out _ HO.tail.tail⟩
    · have e1 : postE l p = 0 := by simp [postE, hm, hfp, hfit]
      have e2 : postL l p = l ++ [p] := by simp [postL, hm, hfp, hfit]
      rw [e1, e2]
      simp only [MovesPost, hfit, if_true] at MV
      replace hidn := Lib.hid (hidn.out hfp)
      replace hbaln := Lib.hid (hbaln.out hm)
      have hmi := movesF_int l p
      have hpc : (l ++ [p]).map pstC = l.map pstC ++ [pstC p] := by simp
      generalize movesF l p = mv at *
      clear e1 e2 hm hB hp hfp hfit
      generalize hlp : l ++ [p] = lp at *
      replace hpc := Lib.hid hpc
      replace hlp := Lib.hid hlp
      obtain ⟨id, o, d, c, a⟩ := p
      simp only [pstV, pstC, Option.map_none] at *
      go_enter Tryd.func49, Tryd.ntmps49
      go_upto_region 5 with (first | (first | go_big_skip | ((with_reducible apply wpList_loadAll HO); exact rfl; exact rfl; (repeat (with_reducible (first | exact At.head _ | apply At.tail))); infer_instance; exact rfl; exact rfl; (simp only [Act.put, List.setIfInBounds_toArray, List.set_cons_succ, List.set_cons_zero])) | ((with_reducible apply wpList_loadOne HO); exact rfl; exact rfl; (repeat (with_reducible (first | exact At.head _ | apply At.tail))); exact rfl; infer_instance; exact rfl; (simp only [Act.put, List.setIfInBounds_toArray, List.set_cons_succ, List.set_cons_zero]))) | (first | ((with_reducible apply wpList_boxAgg _ HO rfl); exact rfl; exact rfl; exact rfl; clear HO; intro b3 w HO; (simp only [Act.put, List.setIfInBounds_toArray, List.set_cons_succ, List.set_cons_zero])) | ((with_reducible apply wpList_allocAgg _ HO rfl); exact rfl; infer_instance; exact rfl; clear HO; intro b3 w HO; (simp only [Act.put, List.setIfInBounds_toArray, List.set_cons_succ, List.set_cons_zero]))) | (go_at_call 54; go_must ((with_reducible refine (bkNone_any (HO.boxAt (by repeat (first | exact List.mem_cons_self | apply List.mem_cons_of_mem)))).mono ?_); rintro e w ⟨rfl, hb⟩; replace HO := HO.call hb; clear hb)) | (go_at_call 59; go_must ((with_reducible refine (MY _).mono ?_); rintro e w ⟨rfl, hb⟩; replace HO := HO.call hb; clear hb)))
      refine region_sched2 ([box b3 (.cells #[.string id, .int .i64 o, .int .i64 d, .int .i64 c, .int .i64 a] 111), box b (.cells #[v, .map (some pm), .map (some bm)] 102), mapE Tryd.prog 9 pm n1 f]) [(0, true), (1, true), (2, true), (3, true), (4, true), (5, true), (6, true), (7, true), (8, true), (9, true), (10, false), (11, false), (12, true)] HO (by with_reducible (repeat (first | exact List.nil_sublist _ | apply List.Sublist.cons_cons | apply List.Sublist.cons))) (by kernel_rfl) (by kernel_rfl) ?_
      clear HO
      intro w HO
      repeat (first | ((with_reducible apply wpSched_loadOne); exact rfl; exact rfl; exact rfl; (repeat (with_reducible (first | exact At.head _ | apply At.tail))); exact rfl; infer_instance; exact rfl; (simp only [Act.put, List.setIfInBounds_toArray, List.set_cons_succ, List.set_cons_zero])) | ((with_reducible apply wpSched_mapLook1 (kt := 9) (et := 111)); exact rfl; exact rfl; exact rfl; exact rfl; (repeat (with_reducible (first | exact At.head _ | apply At.tail))); exact strKeyed; exact Tryd.underlying98; infer_instance; exact hkey; (focus (first | (rw [hq]; done) | (rw [hq]; exact rfl))); exact rfl; (simp only [Act.put, List.setIfInBounds_toArray, List.set_cons_succ, List.set_cons_zero])) | ((with_reducible apply wpSched_pure); exact rfl; exact rfl; (intro w'; go_simp; try with_reducible rfl); (simp only [Act.put, List.setIfInBounds_toArray, List.set_cons_succ, List.set_cons_zero])))
      ((with_reducible apply wpSched_loud); exact rfl; (first | ((with_reducible apply wpList_boxAgg _ HO rfl); exact rfl; exact rfl; exact rfl; clear HO; intro b5 w HO; (simp only [Act.put, List.setIfInBounds_toArray, List.set_cons_succ, List.set_cons_zero])) | ((with_reducible apply wpList_allocAgg _ HO rfl); exact rfl; infer_instance; exact rfl; clear HO; intro b5 w HO; (simp only [Act.put, List.setIfInBounds_toArray, List.set_cons_succ, List.set_cons_zero]))))
      refine wpList_nil (thenQ_keep (HO.held (by with_reducible (repeat (first | exact List.nil_sublist _ | apply List.Sublist.cons_cons | apply List.Sublist.cons)))) ?_)
      ((with_reducible apply wpSched_loud); exact rfl; ((with_reducible apply wpList_storeAll HO); exact rfl; exact rfl; exact rfl; (repeat (with_reducible (first | exact At.head _ | apply At.tail))); infer_instance; exact rfl; exact rfl; exact rfl; exact rfl; clear HO; intro w HO; (simp only [Act.put])))
      refine wpList_nil (thenQ_keep (HO.held (by with_reducible (repeat (first | exact List.nil_sublist _ | apply List.Sublist.cons_cons | apply List.Sublist.cons)))) ?_)
      ((with_reducible apply wpSched_pure); exact rfl; exact rfl; (intro w'; go_simp; try with_reducible rfl); (simp only [Act.put, List.setIfInBounds_toArray, List.set_cons_succ, List.set_cons_zero]))
      refine wpSched_end ?_
      go_upto_region 14 with (first | (first | go_big_skip | ((with_reducible apply wpList_loadAll HO); exact rfl; exact rfl; (repeat (with_reducible (first | exact At.head _ | apply At.tail))); infer_instance; exact rfl; exact rfl; (simp only [Act.put, List.setIfInBounds_toArray, List.set_cons_succ, List.set_cons_zero])) | ((with_reducible apply wpList_loadOne HO); exact rfl; exact rfl; (repeat (with_reducible (first | exact At.head _ | apply At.tail))); exact rfl; infer_instance; exact rfl; (simp only [Act.put, List.setIfInBounds_toArray, List.set_cons_succ, List.set_cons_zero]))) | (go_at_call 60; go_must ((with_reducible refine (MV _ (Own.bkOf HO (by repeat (first | exact List.mem_cons_self | apply List.mem_cons_of_mem)) (by repeat (first | exact List.mem_cons_self | apply List.mem_cons_of_mem)) (by repeat (first | exact List.mem_cons_self | apply List.mem_cons_of_mem)) (by repeat (first | exact List.mem_cons_self | apply List.mem_cons_of_mem)) hn1 hf hn2 hg)).mono ?_); rintro e w ⟨om, rfl, HO1⟩; replace HO := HO.lift HO1; clear HO1; simp only [List.cons_append, List.nil_append] at HO; replace HO := HO.perm ((List.perm_middle (l₁ := [_, _, _, _, _])).cons _); simp only [List.cons_append, List.nil_append] at HO)) | (go_at_call 61; go_must ((with_reducible refine (mapsCopy_any HO (by omega) (fun k _ v h => hmi k v h)).mono ?_); clear HO; rintro e w ⟨rfl, HO⟩)))
      refine region_sched2 ([box b3 (.cells #[.string id, .int .i64 o, .int .i64 d, .int .i64 c, .int .i64 a] 111), box b (.cells #[v, .map (some pm), .map (some bm)] 102)]) [(0, true), (1, true), (2, true), (3, true), (4, true), (5, true), (6, true), (7, false)] HO (by with_reducible (repeat (first | exact List.nil_sublist _ | apply List.Sublist.cons_cons | apply List.Sublist.cons))) (by kernel_rfl) (by kernel_rfl) ?_
      clear HO
      intro w HO
      repeat (first | ((with_reducible apply wpSched_loadOne); exact rfl; exact rfl; exact rfl; (repeat (with_reducible (first | exact At.head _ | apply At.tail))); exact rfl; infer_instance; exact rfl; (simp only [Act.put, List.setIfInBounds_toArray, List.set_cons_succ, List.set_cons_zero])) | ((with_reducible apply wpSched_loadAll); exact rfl; exact rfl; exact rfl; (repeat (with_reducible (first | exact At.head _ | apply At.tail))); infer_instance; exact rfl; exact rfl; (simp only [Act.put, List.setIfInBounds_toArray, List.set_cons_succ, List.set_cons_zero])) | ((with_reducible apply wpSched_pure); exact rfl; exact rfl; (intro w'; go_simp; try with_reducible rfl); (simp only [Act.put, List.setIfInBounds_toArray, List.set_cons_succ, List.set_cons_zero])))
      ((with_reducible apply wpSched_loud); exact rfl; ((with_reducible apply wpList_mapPut HO (kt := 9) (et := 111)); exact rfl; exact rfl; exact rfl; (first | (simp [Act.eval]; rfl) | exact rfl); (repeat (with_reducible (first | exact At.head _ | apply At.tail))); exact strKeyed; exact Tryd.underlying98; exact hlt1; exact hkey; exact rfl; clear HO; intro w HO; (simp only [Act.put])))
      refine wpList_nil (thenQ_keep (HO.held (by with_reducible (repeat (first | exact List.nil_sublist _ | apply List.Sublist.cons_cons | apply List.Sublist.cons)))) ?_)
      refine wpSched_end ?_
      go_upto_region 15 with fail
      refine region_sched2 ([box b3 (.cells #[.string id, .int .i64 o, .int .i64 d, .int .i64 c, .int .i64 a] 111), box b (.cells #[v, .map (some pm), .map (some bm)] 102)]) [(0, true), (1, true), (2, true), (3, true), (4, true), (5, true), (6, false), (7, false), (8, true), (9, true), (10, false)] HO (by with_reducible (repeat (first | exact List.nil_sublist _ | apply List.Sublist.cons_cons | apply List.Sublist.cons))) (by kernel_rfl) (by kernel_rfl) ?_
      clear HO
      intro w HO
      repeat (first | ((with_reducible apply wpSched_loadOne); exact rfl; exact rfl; exact rfl; (repeat (with_reducible (first | exact At.head _ | apply At.tail))); exact rfl; infer_instance; exact rfl; (simp only [Act.put, List.setIfInBounds_toArray, List.set_cons_succ, List.set_cons_zero])) | ((with_reducible apply wpSched_loadAll); exact rfl; exact rfl; exact rfl; (repeat (with_reducible (first | exact At.head _ | apply At.tail))); infer_instance; exact rfl; exact rfl; (simp only [Act.put, List.setIfInBounds_toArray, List.set_cons_succ, List.set_cons_zero])) | ((with_reducible apply wpSched_pure); exact rfl; exact rfl; (intro w'; go_simp; try with_reducible rfl); (simp only [Act.put, List.setIfInBounds_toArray, List.set_cons_succ, List.set_cons_zero])))
      ((with_reducible apply wpSched_loud); exact rfl; (first | ((with_reducible apply wpList_lit1 HO); exact rfl; infer_instance; infer_instance; exact rfl; exact rfl; exact (by decide); exact rfl; clear HO; intro bl w HO; (simp only [Act.put, List.setIfInBounds_toArray, List.set_cons_succ, List.set_cons_zero])) | ((with_reducible apply wpList_lit1c HO); exact rfl; infer_instance; infer_instance; (first | (simp [Act.eval]; rfl) | exact rfl); exact rfl; exact rfl; clear HO; intro bl w HO; (simp only [Act.put, List.setIfInBounds_toArray, List.set_cons_succ, List.set_cons_zero]))))
      refine wpList_nil (thenQ_keep (HO.held (by with_reducible (repeat (first | exact List.nil_sublist _ | apply List.Sublist.cons_cons | apply List.Sublist.cons)))) ?_)
      ((with_reducible apply wpSched_loud); exact rfl; ((with_reducible apply wpList_push1 HO); exact rfl; infer_instance; infer_instance; (first | (simp [Act.eval]; rfl) | exact rfl); exact rfl; intro _; (repeat (with_reducible (first | exact At.head _ | apply At.tail))); exact rfl; exact rfl; (first | omega | (simp; omega)); decide; exact rfl; clear HO; intro v2 w HO hv2; (simp only [Act.put, List.setIfInBounds_toArray, List.set_cons_succ, List.set_cons_zero])))
      obtain ⟨p9, n9, c9, rfl⟩ := hv2
      refine wpList_nil (thenQ_free (by kernel_rfl) ?_)
      repeat ((with_reducible apply wpSched_pure); exact rfl; exact rfl; (intro w'; go_simp; try with_reducible rfl); (simp only [Act.put, List.setIfInBounds_toArray, List.set_cons_succ, List.set_cons_zero]))
      ((with_reducible apply wpSched_loud); exact rfl; ((with_reducible apply wpList_storeOne HO); exact rfl; exact rfl; (first | (simp [Act.eval]; rfl) | exact rfl); exact rfl; (repeat (with_reducible (first | exact At.head _ | apply At.tail))); infer_instance; exact (by simp); (simp only [List.set_cons_zero]; rfl); exact rfl; clear HO; intro w HO; (simp only [Act.put])))
      refine wpList_nil (thenQ_free (by kernel_rfl) ?_)
      refine wpSched_end ?_
      go_wp2_with fail
      go_ret
      refine ⟨rfl, .slice p9 n9 c9, ?_⟩
      have h1 := (HO.sub (.cons _ (.cons_cons _ (.cons _ (.cons _ (List.Sublist.refl _)))))).perm (List.perm_middle (l₁ := [_, _, _])).symm
      simp only [List.cons_append, List.nil_append] at h1
      have hll : lp.length = l.length + 1 := by rw [← hlp.out]; simp
      have h2 := Own.balClose (Own.idClose h1 (.tail _ _ _ (.tail _ _ _ (.head _))) (by rw [hll]; omega) hidn.out) (.tail _ _ _ (.tail _ _ _ (.tail _ _ _ (.head _)))) (by rw [hll]; omega) hbaln.out
      show Own W w (box b _ :: row _ 5 (.slice p9 n9 c9) (lp.map pstC) :: _ :: _ :: M)
      rw [hpc.out]
      exact h2
/-- The same, wherever the books stand among the caller's own memory. -/
theorem bkPost_any {W w : World} {L : List Ent} {L' : Value → List Ent} {b : Nat} {v : Value} {pm bm : Nat} {l : List Pst} (p : Pst) (HO : Own W w L) (hat : ∀ v', At (bkE b v pm bm l) (bkE b v' pm bm (postL l p)) L (L' v')) (hB : Bk l) (hp : WfP p) (hlen : l.length ≤ 100000) :
    Calls Tryd.prog 49 #[.pointer (some ⟨b, 0, none⟩), pstV p] w fun e w' => e = .returned (.int .i64 (postE l p)) ∧ ∃ v', Own W w' (L' v') := by
  obtain ⟨M, p1, p2⟩ := At.fronts hat v
  refine (bkPost_own p (HO.perm p1).unjoin hB hp hlen).mono fun e w' h => ?_
  obtain ⟨rfl, v', h1⟩ := h
  exact ⟨rfl, v', (Own.join h1).perm (p2 v').symm⟩
end Go.Proofs.YtibabfedpdoofaaDoor
namespace Go.Proofs.YtibabfedpdoofaaDoor
open Go.RowKit Go.Own

def varF : Nat → Nat → List UInt8
  | 0, _ => []
  | k + 1, m => if m < 128 then [UInt8.ofNat m] else UInt8.ofNat (m % 128 + 128) :: varF k (m / 128)

def VarInv (N m : Nat) (l : List UInt8) : Prop := m < 128 ^ (10 - l.length) ∧ l.length ≤ 9 ∧ l ++ varF (10 - l.length) m = varF 10 N
theorem infoU8 : (Tryd.prog.info? 5).map (fun i => (i.zero, i.size, i.bytes)) = some (some (.int .u8 0), 1, 1) := by kernel_rfl

theorem VarInv.last {N m : Nat} {l : List UInt8} (h : VarInv N m l) (hm : m < 128) : l ++ [UInt8.ofNat m] = varF 10 N := by
  obtain ⟨_, h2, h3⟩ := h
  rw [← h3, show 10 - l.length = (9 - l.length) + 1 by omega, varF, if_pos hm]

theorem VarInv.step {N m : Nat} {l : List UInt8} (h : VarInv N m l) (hm : ¬ m < 128) : VarInv N (m / 128) (l ++ [UInt8.ofNat (m % 128 + 128)]) := by
  obtain ⟨h1, h2, h3⟩ := h
  have hlt : l.length < 9 := by
    rcases Nat.lt_or_ge l.length 9 with h | h
    · exact h
    · rw [show 10 - l.length = 1 by omega] at h1; omega
  refine ⟨?_, by simp; omega, ?_⟩
  · have e : 10 - l.length = (10 - (l ++ [UInt8.ofNat (m % 128 + 128)]).length) + 1 := by simp; omega
    rw [e, Nat.pow_succ] at h1
    exact Nat.div_lt_of_lt_mul (by rw [Nat.mul_comm]; exact h1)
  · rw [← h3, show 10 - l.length = (10 - (l ++ [UInt8.ofNat (m % 128 + 128)]).length) + 1 by simp; omega, varF, if_neg hm]
    simp
theorem or128 (m : Nat) : bits BinOp.or IntKind.u8 ((m : Int) % 256) 128 = (((UInt8.ofNat (m % 128 + 128)).toNat : Nat) : Int) := by
  have key : ∀ x : Fin 256, bits BinOp.or IntKind.u8 (x.val : Int) 128 = (((UInt8.ofNat (x.val % 128 + 128)).toNat : Nat) : Int) := by decide +kernel
  have h : ((m : Int) % 256) = ((m % 256 : Nat) : Int) := by omega
  have := key ⟨m % 256, by omega⟩
  rw [h, this, show m % 256 % 128 = m % 128 by omega]

end Go.Proofs.YtibabfedpdoofaaDoor
namespace Go.Proofs.YtibabfedpdoofaaDoor
open Go.RowKit Go.Own

def rdFrom : Nat → List UInt8 → Option (Nat × List UInt8)
  | _, [] => none
  | i, c :: r => if 10 ≤ i then none else if 128 ≤ c.toNat then (rdFrom (i + 1) r).map (fun x => (c.toNat % 128 + 128 * x.1, x.2))
    else if (0 < i ∧ c.toNat = 0) ∨ (i = 9 ∧ 1 < c.toNat) then none else some (c.toNat, r)
def readB (l : List UInt8) : Option (Nat × List UInt8) := rdFrom 0 l
def valP : List UInt8 → Nat
  | [] => 0
  | c :: r => c.toNat % 128 + 128 * valP r
def retRead (o : Option (Nat × List UInt8)) : Value := match o with
  | some (n, r) => .tuple #[.int .u64 n, .string ⟨r.toArray⟩, .bool true]
  | none => .tuple #[.int .u64 0, .string ⟨#[]⟩, .bool false]

theorem valP_snoc (l : List UInt8) (c : UInt8) : valP (l ++ [c]) = valP l + (c.toNat % 128) * 128 ^ l.length := by
  induction l with
  | nil => simp [valP]
  | cons d r ih => simp only [List.cons_append, valP, ih, List.length_cons, Nat.pow_succ]; rw [Nat.mul_add]; simp only [Nat.add_assoc]; congr 2; rw [Nat.mul_comm 128, Nat.mul_assoc]
theorem valP_lt (l : List UInt8) : valP l < 128 ^ l.length := by
  induction l with
  | nil => simp [valP]
  | cons d r ih => simp only [valP, List.length_cons, Nat.pow_succ]; have := Nat.mod_lt d.toNat (show 0 < 128 by decide); omega
theorem rd_step (l : List UInt8) : ∀ (k i : Nat) (r : List UInt8), i ≤ k → k ≤ 10 → (∀ c ∈ l, 128 ≤ c.toNat) → l.length = k - i → rdFrom i (l ++ r) = (rdFrom k r).map (fun x => (valP l + 128 ^ l.length * x.1, x.2)) := by
  induction l with
  | nil => intro k i r _ _ _ h; have : k = i := by simp at h; omega
           subst this; simp [valP]
  | cons c l ih =>
    intro k i r h1 h2 h3 h4
    simp only [List.length_cons] at h4
    have hc := h3 c List.mem_cons_self
    simp only [List.cons_append, rdFrom]
    rw [if_neg (by omega), if_pos hc, ih k (i + 1) r (by omega) h2 (fun d hd => h3 d (List.mem_cons_of_mem _ hd)) (by omega)]
    cases rdFrom k r with
    | none => rfl
    | some x => simp only [Option.map_some, valP, List.length_cons, Nat.pow_succ]; congr 2; rw [Nat.mul_add, Nat.add_assoc, Nat.mul_comm (128 ^ l.length) 128, Nat.mul_assoc]
theorem read_at (l : List UInt8) (i : Nat) (h : i ≤ l.length) (hi : i ≤ 10) (hp : ∀ c ∈ l.take i, 128 ≤ c.toNat) : readB l = (rdFrom i (l.drop i)).map (fun x => (valP (l.take i) + 128 ^ i * x.1, x.2)) := by
  have := rd_step (l.take i) i 0 (l.drop i) (by omega) hi hp (by simp; omega)
  rw [List.take_append_drop, show (l.take i).length = i by simp; omega] at this
  exact this
theorem read_low (l : List UInt8) (i : Nat) (h : i < l.length) (hi : i < 10) (hp : ∀ c ∈ l.take i, 128 ≤ c.toNat) (hc : l[i].toNat < 128) :
    readB l = if (0 < i ∧ l[i].toNat = 0) ∨ (i = 9 ∧ 1 < l[i].toNat) then none else some (valP (l.take i) + 128 ^ i * l[i].toNat, l.drop (i + 1)) := by
  rw [read_at l i (by omega) (by omega) hp, List.drop_eq_getElem_cons h, rdFrom, if_neg (by omega), if_neg (by omega)]
  split <;> simp
theorem read_out (l : List UInt8) (i : Nat) (h : i ≤ l.length) (hi : i ≤ 10) (hp : ∀ c ∈ l.take i, 128 ≤ c.toNat) (he : i = l.length ∨ i = 10) : readB l = none := by
  rw [read_at l i h hi hp]
  rcases he with rfl | rfl
  · simp [rdFrom]
  · cases hd : l.drop 10 with
    | nil => simp [rdFrom]
    | cons c r => simp [rdFrom]
theorem wrap_u64 (X : Nat) (h : X < 18446744073709551616) : IntKind.u64.wrap (X : Int) = X := by
  simp only [IntKind.wrap, IntKind.bits, IntKind.signed]; simp; omega
theorem bits_or_u64 (a b : Nat) (ha : a < 18446744073709551616) (hb : b < 18446744073709551616) : bits BinOp.or IntKind.u64 (a : Int) (b : Int) = ((a ||| b : Nat) : Int) := by
  have hlt : a ||| b < 2 ^ 64 := Nat.or_lt_two_pow (by omega) (by omega)
  unfold bits
  simp [IntKind.bits, IntKind.wrap, IntKind.signed]
  have e3 : (BitVec.ofNat 64 a ||| BitVec.ofNat 64 b).toNat = a ||| b := by
    rw [BitVec.toNat_or, BitVec.toNat_ofNat, BitVec.toNat_ofNat, Nat.mod_eq_of_lt (by omega), Nat.mod_eq_of_lt (by omega)]
  change (((BitVec.ofNat 64 a ||| BitVec.ofNat 64 b).toNat : Nat) : Int) % 18446744073709551616 = _
  rw [e3]
  omega
theorem or_shift (V c i : Nat) (hV : V < 128 ^ i) (hi : i < 10) (hc : c < 256) (hf : c % 128 * 128 ^ i < 18446744073709551616) :
    bits BinOp.or IntKind.u64 (V : Int) (IntKind.u64.wrap (IntKind.u64.wrap (bits BinOp.and IntKind.u8 (c : Int) 127) * 2 ^ (7 * i))) = ((V + 128 ^ i * (c % 128) : Nat) : Int) := by
  have h1 : ∀ x : Fin 256, IntKind.u64.wrap (bits BinOp.and IntKind.u8 (x.val : Int) 127) = ((x.val % 128 : Nat) : Int) := by decide +kernel
  have h2 := h1 ⟨c, hc⟩
  simp only at h2
  have hp : (128 : Nat) ^ i = 2 ^ (7 * i) := by rw [Nat.pow_mul]
  have hV2 : V < 18446744073709551616 := Nat.lt_of_lt_of_le hV (by
    have : 128 ^ i ≤ 128 ^ 9 := Nat.pow_le_pow_right (by decide) (by omega)
    omega)
  rw [h2]
  have e1 : ((c % 128 : Nat) : Int) * 2 ^ (7 * i) = ((c % 128 * 128 ^ i : Nat) : Int) := by rw [hp]; simp
  rw [e1, wrap_u64 _ hf, bits_or_u64 _ _ hV2 hf]
  congr 1
  rw [hp, Nat.add_comm, Nat.two_pow_add_eq_or_of_lt (by rw [← hp]; exact hV), Nat.or_comm, Nat.mul_comm]
def NOk (l : List UInt8) (i : Nat) (n : Int) : Prop := i ≤ 9 → n = (valP (l.take i) : Int)

theorem ret3 {n m : Int} {s t : ByteArray} (h1 : n = m) (h2 : s = t) : Ending.returned (.tuple #[.int .u64 n, .string s, .bool true]) = .returned (.tuple #[.int .u64 m, .string t, .bool true]) := by rw [h1, h2]
theorem low_val (l : List UInt8) (i : Nat) (h : i ≤ l.length) : valP (l.take i) < 128 ^ i := by
  have := valP_lt (l.take i)
  rwa [show (l.take i).length = i by simp; omega] at this
theorem low_fits {c i : Nat} (hc : c < 128) (hi : i < 10) (hn : ¬ (i = 9 ∧ 1 < c)) : c % 128 * 128 ^ i < 18446744073709551616 := by
  rw [Nat.mod_eq_of_lt hc]
  by_cases h9 : i = 9
  · subst h9
    have : c ≤ 1 := by omega
    calc c * 128 ^ 9 ≤ 1 * 128 ^ 9 := Nat.mul_le_mul_right _ this
      _ < _ := by decide
  · have hp : 128 ^ i ≤ 128 ^ 8 := Nat.pow_le_pow_right (by decide) (by omega)
    calc c * 128 ^ i ≤ 127 * 128 ^ 8 := Nat.mul_le_mul (by omega) hp
      _ < _ := by decide
theorem take_snoc (l : List UInt8) (i : Nat) (h : i < l.length) : l.take (i + 1) = l.take i ++ [l[i]] := by
  rw [List.take_succ_eq_append_getElem h]
theorem NOk.step {l : List UInt8} {i : Nat} (_h : NOk l i (valP (l.take i))) (_h3 : ∀ c ∈ l.take i, 128 ≤ c.toNat) (hi : i < l.length) (h10 : i < 10) (_hc : 128 ≤ l[i].toNat) :
    NOk l (i + 1) (bits BinOp.or IntKind.u64 (valP (l.take i) : Int) (IntKind.u64.wrap (IntKind.u64.wrap (bits BinOp.and IntKind.u8 (l[i].toNat : Int) 127) * 2 ^ (7 * i)))) := by
  intro h9
  have hlen : (l.take i).length = i := by simp; omega
  have hV := valP_lt (l.take i)
  rw [hlen] at hV
  have hp : 128 ^ i ≤ 128 ^ 8 := Nat.pow_le_pow_right (by decide) (by omega)
  have hf : l[i].toNat % 128 * 128 ^ i ≤ 127 * 128 ^ 8 := Nat.mul_le_mul (by omega) hp
  rw [or_shift _ _ _ hV (by omega) (by have := l[i].toNat_lt; omega) (by omega), take_snoc l i hi, valP_snoc, hlen, Nat.mul_comm (128 ^ i)]
theorem step_high {l : List UInt8} {i : Nat} (h3 : ∀ c ∈ l.take i, 128 ≤ c.toNat) (hi : i < l.length) (hc : 128 ≤ l[i].toNat) : ∀ c ∈ l.take (i + 1), 128 ≤ c.toNat := by
  rw [take_snoc l i hi]
  intro c hm
  rcases List.mem_append.1 hm with h | h
  · exact h3 c h
  · rw [List.mem_singleton.1 h]; exact hc

def cutB (l : List UInt8) : Option (List UInt8 × List UInt8) := match readB l with
  | some (n, r) => if n ≤ r.length then some (r.take n, r.drop n) else none
  | none => none
def retCut (o : Option (List UInt8 × List UInt8)) : Value := match o with
  | some (s, r) => .tuple #[.string ⟨s.toArray⟩, .string ⟨r.toArray⟩, .bool true]
  | none => .tuple #[.string ⟨#[]⟩, .string ⟨#[]⟩, .bool false]

theorem rdFrom_len : ∀ (l : List UInt8) (i : Nat) (n : Nat) (r : List UInt8), rdFrom i l = some (n, r) → r.length < l.length
  | [], _, _, _, h => by simp [rdFrom] at h
  | c :: l, i, n, r, h => by
    unfold rdFrom at h
    split at h
    · cases h
    · split at h
      · cases h1 : rdFrom (i + 1) l with
        | none => rw [h1] at h; cases h
        | some x =>
          have := rdFrom_len l (i + 1) x.1 x.2 h1
          rw [h1] at h
          simp only [Option.map_some, Option.some.injEq, Prod.mk.injEq] at h
          rw [← h.2]; simp; omega
      · split at h
        · cases h
        · simp only [Option.some.injEq, Prod.mk.injEq] at h
          rw [← h.2]; simp
theorem readB_len {l : List UInt8} {n : Nat} {r : List UInt8} (h : readB l = some (n, r)) : r.length < l.length := rdFrom_len l 0 n r h

def textB (l : List UInt8) : List UInt8 := varF 10 l.length ++ l
theorem varF_len (k n : Nat) : (varF k n).length ≤ k := by
  induction k generalizing n with
  | zero => simp [varF]
  | succ k ih => unfold varF; split <;> simp; exact ih _
end Go.Proofs.YtibabfedpdoofaaDoor
namespace Go.Proofs.YtibabfedpdoofaaDoor
open Go.RowKit Go.Own

theorem varF_fuel : ∀ (k n : Nat), n < 128 ^ k → ∀ j, k ≤ j → 0 < k → varF j n = varF k n
  | 0, _, _, _, _, h => absurd h (by decide)
  | k + 1, n, h, 0, hj, _ => absurd hj (by omega)
  | k + 1, n, h, j + 1, hj, _ => by
    by_cases hn : n < 128
    · rw [varF, varF, if_pos hn, if_pos hn]
    · rw [varF, varF, if_neg hn, if_neg hn]
      have hk : 0 < k := by
        rcases Nat.eq_zero_or_pos k with rfl | h0
        · simp at h; omega
        · exact h0
      rw [Nat.pow_succ] at h
      rw [varF_fuel k (n / 128) (Nat.div_lt_of_lt_mul (by rw [Nat.mul_comm]; exact h)) j (by omega) hk]

theorem wrap_u8_in {x : Int} (h0 : 0 ≤ x) (h : x < 256) : IntKind.u8.wrap x = x := by
  simp only [IntKind.wrap, IntKind.bits, IntKind.signed]; simp; omega
theorem wrap_u64_in {x : Int} (h0 : 0 ≤ x) (h : x < 18446744073709551616) : IntKind.u64.wrap x = x := by
  simp only [IntKind.wrap, IntKind.bits, IntKind.signed]; simp; omega

theorem valP_varF : ∀ (k n : Nat), 0 < k → n < 128 ^ k → valP (varF k n) = n
  | 0, _, h, _ => absurd h (by decide)
  | k + 1, n, _, h => by
    unfold varF
    by_cases hn : n < 128
    · rw [if_pos hn]; simp [valP]; omega
    · rw [if_neg hn]
      have hk : 0 < k := by
        rcases Nat.eq_zero_or_pos k with rfl | h0
        · simp at h; omega
        · exact h0
      rw [Nat.pow_succ] at h
      have hlt : n / 128 < 128 ^ k := Nat.div_lt_of_lt_mul (by rw [Nat.mul_comm]; exact h)
      simp only [valP, valP_varF k (n / 128) hk hlt]
      have : (UInt8.ofNat (n % 128 + 128)).toNat = n % 128 + 128 := by simp; omega
      rw [this]; omega
/-- The last byte of a number's bytes: not 0, if there are more. -/
theorem varF_last : ∀ (k n : Nat) (p : List UInt8) (c : UInt8), varF k n = p ++ [c] → p ≠ [] → c.toNat ≠ 0
  | 0, _, p, c, h, _ => by simp [varF] at h
  | k + 1, n, p, c, h, hp => by
    unfold varF at h
    by_cases hn : n < 128
    · rw [if_pos hn] at h
      cases p with
      | nil => exact absurd rfl hp
      | cons d r => simp at h
    · rw [if_neg hn] at h
      cases p with
      | nil => exact absurd rfl hp
      | cons d r =>
        simp only [List.cons_append, List.cons.injEq] at h
        cases r with
        | nil =>
          cases k with
          | zero => simp [varF] at h
          | succ k =>
            have h2 := h.2
            unfold varF at h2
            by_cases hm : n / 128 < 128
            · rw [if_pos hm] at h2
              simp at h2
              rw [← h2]; simp; omega
            · rw [if_neg hm] at h2
              simp only [List.nil_append, List.cons.injEq] at h2
              rw [← h2.1]; simp; omega
        | cons e r' => exact varF_last k (n / 128) (e :: r') c h.2 (by simp)
theorem varF_of_val : ∀ (p : List UInt8) (c : UInt8) (k : Nat), (∀ d ∈ p, 128 ≤ d.toNat) → c.toNat < 128 → (p ≠ [] → c.toNat ≠ 0) → p.length < k → varF k (valP (p ++ [c])) = p ++ [c]
  | [], c, k, _, hc, _, hk => by
    cases k with
    | zero => simp at hk
    | succ k => simp only [List.nil_append, valP]; rw [Nat.mod_eq_of_lt hc, varF, if_pos (by omega)]; simp
  | d :: p, c, k, h1, hc, h0, hk => by
    cases k with
    | zero => simp at hk
    | succ k =>
      have hd := h1 d List.mem_cons_self
      have hd2 := d.toNat_lt
      have ih := varF_of_val p c k (fun x hx => h1 x (List.mem_cons_of_mem _ hx)) hc (fun _ => h0 (by simp)) (by simp at hk; omega)
      have hpos : 0 < valP (p ++ [c]) := by
        rw [valP_snoc]
        have hc0 := h0 (by simp)
        have : 0 < (c.toNat % 128) * 128 ^ p.length := Nat.mul_pos (by omega) (Nat.pow_pos (by decide))
        omega
      simp only [List.cons_append, valP]
      rw [varF, if_neg (by omega), show (d.toNat % 128 + 128 * valP (p ++ [c])) / 128 = valP (p ++ [c]) by omega, ih]
      congr 1
      apply UInt8.toNat.inj
      simp; omega

/-- Are the first k + 1 bytes a number's? -/
theorem canon {l : List UInt8} {k : Nat} (hk : k < l.length) (h9 : k ≤ 9) (hp : ∀ c ∈ l.take k, 128 ≤ c.toNat) (hc : l[k].toNat < 128) :
    (varF 10 (valP (l.take (k + 1)) % 18446744073709551616) = l.take (k + 1)) ↔ ¬ ((0 < k ∧ l[k].toNat = 0) ∨ (k = 9 ∧ 1 < l[k].toNat)) := by
  have ht := take_snoc l k hk
  have hlen : (l.take k).length = k := by simp; omega
  have hv : valP (l.take (k + 1)) = valP (l.take k) + (l[k].toNat % 128) * 128 ^ k := by rw [ht, valP_snoc, hlen]
  have hlow := low_val l k (by omega)
  constructor
  · intro h hbad
    rcases hbad with ⟨h1, h2⟩ | ⟨h1, h2⟩
    · rw [ht] at h
      refine varF_last _ _ _ _ h ?_ h2
      intro e
      rw [e] at hlen; simp at hlen; omega
    · have h3 := valP_varF 10 (valP (l.take (k + 1)) % 18446744073709551616) (by decide) (Nat.lt_of_lt_of_le (Nat.mod_lt _ (by decide)) (by decide))
      rw [h] at h3
      have h4 := Nat.mod_lt (valP (l.take (k + 1))) (show 0 < 18446744073709551616 by decide)
      rw [← h3, hv, Nat.mod_eq_of_lt hc] at h4
      have h5 : 2 * 128 ^ 9 ≤ l[9].toNat * 128 ^ 9 := Nat.mul_le_mul_right _ (by subst h1; exact h2)
      subst h1
      have h6 : (128 : Nat) ^ 9 * 2 = 18446744073709551616 := by decide
      omega
  · intro hg
    have hf := low_fits hc (show k < 10 by omega) (fun h => hg (.inr h))
    have hlt : valP (l.take (k + 1)) < 18446744073709551616 := by
      rw [hv]
      by_cases h9' : k = 9
      · have hc1 : l[k].toNat ≤ 1 := by
          rcases Nat.lt_or_ge 1 l[k].toNat with h | h
          · exact absurd (.inr ⟨h9', h⟩) hg
          · exact h
        have e1 : l[k].toNat % 128 ≤ 1 := by omega
        have e2 : (l[k].toNat % 128) * 128 ^ k ≤ 1 * 128 ^ k := Nat.mul_le_mul_right _ e1
        have e3 : 128 ^ k + 1 * 128 ^ k ≤ 18446744073709551616 := by rw [h9']; decide
        omega
      · have e1 : (l[k].toNat % 128) * 128 ^ k ≤ 127 * 128 ^ k := Nat.mul_le_mul_right _ (by omega)
        have e2 : 128 ^ k ≤ 128 ^ 8 := Nat.pow_le_pow_right (by decide) (by omega)
        have e3 : 128 * (128 : Nat) ^ 8 < 18446744073709551616 := by decide
        omega
    rw [Nat.mod_eq_of_lt hlt, ht]
    refine varF_of_val _ _ _ hp hc (fun hne h0 => hg (.inl ⟨?_, h0⟩)) (by rw [hlen]; omega)
    rcases Nat.eq_zero_or_pos k with rfl | h
    · simp at hne
    · exact h

theorem wrap_u64_mod (x : Int) : IntKind.u64.wrap x = x % 18446744073709551616 := by
  simp only [IntKind.wrap, IntKind.bits, IntKind.signed]; simp
theorem canon_val {l : List UInt8} {k : Nat} (hk : k < l.length) (h9 : k ≤ 9) (hp : ∀ c ∈ l.take k, 128 ≤ c.toNat) (hc : l[k].toNat < 128) (hg : ¬ ((0 < k ∧ l[k].toNat = 0) ∨ (k = 9 ∧ 1 < l[k].toNat))) :
    ((valP (l.take (k + 1)) : Int) % 18446744073709551616) = ((valP (l.take k) + 128 ^ k * l[k].toNat : Nat) : Int) := by
  have h := (canon hk h9 hp hc).2 hg
  have h3 := valP_varF 10 (valP (l.take (k + 1)) % 18446744073709551616) (by decide) (Nat.lt_of_lt_of_le (Nat.mod_lt _ (by decide)) (by decide))
  rw [h] at h3
  have hlen : (l.take k).length = k := by simp; omega
  have hv : valP (l.take (k + 1)) = valP (l.take k) + (l[k].toNat % 128) * 128 ^ k := by rw [take_snoc l k hk, valP_snoc, hlen]
  rw [Nat.mod_eq_of_lt hc, Nat.mul_comm] at hv
  rw [← hv]
  omega
/-- The number read so far, from behind. -/
def Beh (q : List UInt8) (j : Nat) (m : Int) : Prop := m = ((valP (q.drop j) % 18446744073709551616 : Nat) : Int)
theorem Beh.step {l : List UInt8} {k j : Nat} {m : Int} (h : Beh (l.take (k + 1)) (j + 1) m) (hj : j ≤ k) (hk : k < l.length) :
    Beh (l.take (k + 1)) j (IntKind.u64.wrap (IntKind.u64.wrap (m * 128) + (l[j]'(by omega)).toNat % 128)) := by
  unfold Beh at *
  have e : (l.take (k + 1)).drop j = (l[j]'(by omega)) :: (l.take (k + 1)).drop (j + 1) := by
    rw [List.drop_eq_getElem_cons (by simp; omega)]; simp
  rw [e, h, wrap_u64_mod, wrap_u64_mod]
  simp only [valP]
  omega

end Go.Proofs.YtibabfedpdoofaaDoor
namespace Go.Proofs.YtibabfedpdoofaaDoor
open Go.RowKit Go.Own

def nameByte (c : Nat) : Bool := (decide (65 ≤ c) && decide (c ≤ 90)) || (decide (97 ≤ c) && decide (c ≤ 122)) || (decide (48 ≤ c) && decide (c ≤ 57)) || decide (c = 45) || decide (c = 95)
def isName (l : List UInt8) : Bool := l.all fun c => nameByte c.toNat
theorem isName_not {l : List UInt8} {i : Nat} (h : i < l.length) (hc : nameByte l[i].toNat = false) : isName l = false := by
  unfold isName
  rw [List.all_eq_false]
  exact ⟨l[i], List.getElem_mem _, by simp [hc]⟩
theorem isName_all {l : List UInt8} (h : ∀ c ∈ l.take l.length, nameByte c.toNat = true) : isName l = true := by
  rw [List.take_length] at h
  exact List.all_eq_true.2 h
theorem name_snoc {l : List UInt8} {i : Nat} (h : i < l.length) (hp : ∀ c ∈ l.take i, nameByte c.toNat = true) (hc : nameByte l[i].toNat = true) : ∀ c ∈ l.take (i + 1), nameByte c.toNat = true := by
  rw [List.take_succ_eq_append_getElem h]
  intro c hm
  rcases List.mem_append.1 hm with h1 | h1
  · exact hp c h1
  · rw [List.mem_singleton.1 h1]; exact hc

theorem nameByte_iff {c : Nat} : nameByte c = true ↔ (65 ≤ c ∧ c ≤ 90) ∨ (97 ≤ c ∧ c ≤ 122) ∨ (48 ≤ c ∧ c ≤ 57) ∨ c = 45 ∨ c = 95 := by
  simp [nameByte, or_assoc]
theorem nameByte_iff_not {c : Nat} : nameByte c = false ↔ ¬ ((65 ≤ c ∧ c ≤ 90) ∨ (97 ≤ c ∧ c ≤ 122) ∨ (48 ≤ c ∧ c ≤ 57) ∨ c = 45 ∨ c = 95) := by
  rw [← nameByte_iff]; simp

set_option maxHeartbeats 1000000 in
theorem refName_any (l : List UInt8) (w : World) (hl : l.length ≤ maxLen) : Calls Tryd.prog 84 #[.string ⟨l.toArray⟩] w fun e w' => e = .returned (.bool (isName l)) ∧ Below w.heap.size w w' := by
  unfold maxLen at hl
  go_enter Tryd.func84, Tryd.ntmps84
  go_wp2_with fail
  go_loop [3] (fun c => ∃ i : Nat, i ≤ l.length ∧ c = .int .i64 i ∧ (∀ c ∈ l.take i, nameByte c.toNat = true)) (fun c => l.length - (intOf c).toNat)
  case atStart => exact ⟨0, by omega, rfl, by simp⟩
  case round =>
    obtain ⟨i, h1, rfl, h3⟩ := hrel
    have H3 := Lib.hid h3
    clear h3
    by_cases hi : i < l.length
    · have hlt : (i : Int) < (l.length : Int) := by omega
      cases hn : nameByte l[i].toNat
      · have HN := Lib.hid hn
        have hc : ¬ ((65 ≤ (l[i].toNat : Int) ∧ (l[i].toNat : Int) ≤ 90) ∨ (97 ≤ (l[i].toNat : Int) ∧ (l[i].toNat : Int) ≤ 122) ∨ (48 ≤ (l[i].toNat : Int) ∧ (l[i].toNat : Int) ≤ 57) ∨ (l[i].toNat : Int) = 45 ∨ (l[i].toNat : Int) = 95) := by
          have := nameByte_iff_not.1 hn; omega
        have e1 : ((l[i].toNat : Int) == 45) = false := by simp; omega
        have e2 : ((l[i].toNat : Int) == 95) = false := by simp; omega
        have HC := Lib.hid hc
        have HF := Lib.hid (isName_not hi hn)
        clear hn hc
        go_wp2_with fail
        all_goals first
          | (go_ret; exact ⟨ret_bool HF.out.symm, Below.refl _ _⟩)
          | (exfalso; have hh := HC.out; clear HC; simp at *; omega)
      · have HN := Lib.hid hn
        have hc : ((65 ≤ (l[i].toNat : Int) ∧ (l[i].toNat : Int) ≤ 90) ∨ (97 ≤ (l[i].toNat : Int) ∧ (l[i].toNat : Int) ≤ 122) ∨ (48 ≤ (l[i].toNat : Int) ∧ (l[i].toNat : Int) ≤ 57) ∨ (l[i].toNat : Int) = 45 ∨ (l[i].toNat : Int) = 95) := by
          have := nameByte_iff.1 hn; omega
        have HC := Lib.hid hc
        clear hn hc
        go_wp2_with fail
        all_goals first
          | (go_round
             case rel => exact ⟨i + 1, by omega, by go_num, name_snoc hi H3.out HN.out⟩
             case measure => simp [intOf] <;> omega)
          | (exfalso; rcases HC.out with h | h | h | h | h <;> first | omega | (simp_all; done))
    · have : i = l.length := by omega
      subst this
      have HF := Lib.hid (isName_all H3.out)
      go_wp2_with fail
      go_ret
      exact ⟨ret_bool HF.out.symm, Below.refl _ _⟩

set_option maxHeartbeats 1000000 in
theorem name_any (l : List UInt8) (w : World) (hl : l.length ≤ maxLen) : Calls Tryd.prog 57 #[.string ⟨l.toArray⟩] w fun e w' => e = .returned (.bool (isName l)) ∧ Below w.heap.size w w' := by
  unfold maxLen at hl
  have hB : ∀ p, Below w.heap.size w (w.iter ⟨l.toArray⟩ p) := fun p => (Below.refl _ _).alloc (Nat.le_refl _) _
  have HB := Lib.hid hB
  clear hB
  go_enter Tryd.func57, Tryd.ntmps57
  go_wp2_with fail
  go_loopw [4] (fun c wr => ∃ i : Nat, i ≤ l.length ∧ wr = w.iter ⟨l.toArray⟩ i ∧ (∀ c ∈ l.take i, nameByte c.toNat = true)) (fun _ wr => l.length - wr.iterPos w.heap.size)
  case atStart => exact ⟨0, by omega, rfl, by simp⟩
  case round =>
    obtain ⟨i, h1, rfl, h3⟩ := hrel
    have H3 := Lib.hid h3
    clear h3
    by_cases hi : i < l.length
    · have hlt : (i : Int) < (l.length : Int) := by omega
      by_cases ha : l[i].toNat < 128
      · have hnx := fun ty => run_next_ascii (P := Tryd.prog) w ⟨l.toArray⟩ i ty hi ha
        cases hn : nameByte l[i].toNat
        · have HN := Lib.hid hn
          have hc : ¬ ((65 ≤ (l[i].toNat : Int) ∧ (l[i].toNat : Int) ≤ 90) ∨ (97 ≤ (l[i].toNat : Int) ∧ (l[i].toNat : Int) ≤ 122) ∨ (48 ≤ (l[i].toNat : Int) ∧ (l[i].toNat : Int) ≤ 57) ∨ (l[i].toNat : Int) = 45 ∨ (l[i].toNat : Int) = 95) := by
            have := nameByte_iff_not.1 hn; omega
          have e1 : ((l[i].toNat : Int) == 45) = false := by simp; omega
          have e2 : ((l[i].toNat : Int) == 95) = false := by simp; omega
          have HC := Lib.hid hc
          have HF := Lib.hid (isName_not hi hn)
          clear hn hc
          go_wp2_with fail
          all_goals first
            | (go_ret; exact ⟨ret_bool HF.out.symm, HB.out _⟩)
            | (exfalso; have hh := HC.out; clear HC; simp at *; omega)
        · have HN := Lib.hid hn
          have hc : ((65 ≤ (l[i].toNat : Int) ∧ (l[i].toNat : Int) ≤ 90) ∨ (97 ≤ (l[i].toNat : Int) ∧ (l[i].toNat : Int) ≤ 122) ∨ (48 ≤ (l[i].toNat : Int) ∧ (l[i].toNat : Int) ≤ 57) ∨ (l[i].toNat : Int) = 45 ∨ (l[i].toNat : Int) = 95) := by
            have := nameByte_iff.1 hn; omega
          have HC := Lib.hid hc
          clear hn hc
          go_wp2_with fail
          all_goals first
            | (go_roundw
               case rel => exact ⟨i + 1, by omega, rfl, name_snoc hi H3.out HN.out⟩
               case measure => simp <;> omega)
            | (exfalso; rcases HC.out with h | h | h | h | h <;> first | omega | (simp_all; done))
      · have hdh := (decode_high ⟨l.toArray⟩ i hi (by show 128 ≤ l[i].toNat; omega)).1
        have hnx := fun ty => run_next_any (P := Tryd.prog) w ⟨l.toArray⟩ i ty hi
        have HF := Lib.hid (isName_not hi (nameByte_iff_not.2 (by omega)))
        generalize Utf8.decode ⟨l.toArray⟩ i = d at hdh hnx
        have hd1 : (128 : Int) ≤ (d.1 : Int) := by omega
        clear hdh
        have e1 : ((d.1 : Int) == 45) = false := by simp; omega
        have e2 : ((d.1 : Int) == 95) = false := by simp; omega
        go_wp2_with fail
        all_goals (go_ret; exact ⟨ret_bool HF.out.symm, HB.out _⟩)
    · have : i = l.length := by omega
      subst this
      have HF := Lib.hid (isName_all H3.out)
      have hnx := fun ty => run_next_end (P := Tryd.prog) w ⟨l.toArray⟩ l.length ty (by simp [ByteArray.size])
      go_wp2_with fail
      go_ret
      exact ⟨ret_bool HF.out.symm, HB.out _⟩
end Go.Proofs.YtibabfedpdoofaaDoor
namespace Go.Proofs.YtibabfedpdoofaaDoor
open Go.RowKit Go.Own

/-- What is wrong with an order. -/
def ordCheck (id : Int) (ref sku : List UInt8) (qty amt : Int) : Int :=
  if id < 1 ∨ 60 < id ∨ qty < 1 ∨ 999 < qty ∨ amt < 1 ∨ 1099511627776 < amt ∨ ref = [] ∨ sku = [] then 2
  else if 16 < ref.length ∨ 8 < sku.length then 3
  else if isName ref = true ∧ isName sku = true then 0 else 2

set_option maxHeartbeats 2000000 in
theorem ordCheck_any (id : Int) (ref sku : List UInt8) (qty amt : Int) (w : World) (h1 : ref.length ≤ maxLen) (h2 : sku.length ≤ maxLen) :
    Calls Tryd.prog 44 #[.agg #[.int .i64 id, .string ⟨ref.toArray⟩, .string ⟨sku.toArray⟩, .int .i64 qty, .int .i64 amt]] w fun e w' => e = .returned (.int .i64 (ordCheck id ref sku qty amt)) ∧ Below w.heap.size w w' := by
  have N1 := fun w => name_any ref w h1
  have N2 := fun w => name_any sku w h2
  unfold maxLen at h1 h2
  go_enter Tryd.func44, Tryd.ntmps44
  go_wp2_with (go_at_call 57; go_must ((first | (with_reducible refine (N1 _).mono ?_) | (with_reducible refine (N2 _).mono ?_)); rintro e w1 ⟨rfl, hb⟩; obtain ⟨hc, hf⟩ := bcell hb; have hz := hb.size; (try simp at hz); (try have hzT := Nat.lt_of_succ_le hz)))
  all_goals (go_ret; refine ⟨ret_int ?_, (by with_reducible (repeat (first | assumption | exact Below.refl _ _ | refine Below.drew ?_ | refine below_drewN ?_ _ | refine Below.alloc ?_ (by first | (simp; done) | omega | (simp; omega)) _ | refine Below.setCell ?_ (by first | (simp; done) | omega | (simp; omega)) _ | refine Below.trans ?_ (Below.mono (by assumption) (by first | (simp; done) | omega | (simp; omega))))))⟩)
  all_goals clear N1 N2
  all_goals try clear hb hc hf
  all_goals try clear hb hc hf
  all_goals first | (simp_all [ordCheck]; done) | (simp_all [ordCheck]; omega) | grind [ordCheck]

set_option maxHeartbeats 2000000 in
theorem refOrdCheck_any (id : Int) (ref sku : List UInt8) (qty amt : Int) (w : World) (h1 : ref.length ≤ maxLen) (h2 : sku.length ≤ maxLen) :
    Calls Tryd.prog 68 #[.agg #[.int .i64 id, .string ⟨ref.toArray⟩, .string ⟨sku.toArray⟩, .int .i64 qty, .int .i64 amt]] w fun e w' => e = .returned (.int .i64 (ordCheck id ref sku qty amt)) ∧ Below w.heap.size w w' := by
  have N1 := fun w => refName_any ref w h1
  have N2 := fun w => refName_any sku w h2
  unfold maxLen at h1 h2
  go_enter Tryd.func68, Tryd.ntmps68
  go_wp2_with (go_at_call 84; go_must ((first | (with_reducible refine (N1 _).mono ?_) | (with_reducible refine (N2 _).mono ?_)); rintro e w1 ⟨rfl, hb⟩; obtain ⟨hc, hf⟩ := bcell hb; have hz := hb.size; (try simp at hz); (try have hzT := Nat.lt_of_succ_le hz)))
  all_goals (go_ret; refine ⟨ret_int ?_, (by with_reducible (repeat (first | assumption | exact Below.refl _ _ | refine Below.drew ?_ | refine below_drewN ?_ _ | refine Below.alloc ?_ (by first | (simp; done) | omega | (simp; omega)) _ | refine Below.setCell ?_ (by first | (simp; done) | omega | (simp; omega)) _ | refine Below.trans ?_ (Below.mono (by assumption) (by first | (simp; done) | omega | (simp; omega))))))⟩)
  all_goals clear N1 N2
  all_goals try clear hb hc hf
  all_goals try clear hb hc hf
  all_goals first | (simp_all [ordCheck, List.length_eq_zero_iff]; done) | (simp_all [ordCheck, List.length_eq_zero_iff]; omega) | grind [ordCheck, List.length_eq_zero_iff]

theorem ordCheck_ok {id : Int} {ref sku : List UInt8} {qty amt : Int} (h : ordCheck id ref sku qty amt = 0) :
    1 ≤ id ∧ id ≤ 60 ∧ 1 ≤ qty ∧ qty ≤ 999 ∧ 1 ≤ amt ∧ amt ≤ 1099511627776 ∧ ref ≠ [] ∧ sku ≠ [] ∧ ref.length ≤ 16 ∧ sku.length ≤ 8 ∧ isName ref = true ∧ isName sku = true := by
  unfold ordCheck at h
  split at h
  · cases h
  · split at h
    · cases h
    · split at h
      · rename_i a b c
        simp only [not_or] at a b
        obtain ⟨c1, c2⟩ := c
        exact ⟨by omega, by omega, by omega, by omega, by omega, by omega, a.2.2.2.2.2.2.1, a.2.2.2.2.2.2.2, by omega, by omega, c1, c2⟩
      · cases h
end Go.Proofs.YtibabfedpdoofaaDoor
namespace Go.Proofs.YtibabfedpdoofaaDoor
open Go.RowKit Go.Own

def isDeed (d : Int) : Bool := decide (0 ≤ d) && decide (d < 6)
def keyOk (o d : Int) : Bool := decide (1 ≤ o) && decide (o ≤ 60) && isDeed d
def partyOf (d : Int) : Int := if d = 0 then 1 else if d = 1 then 0 else if d = 2 then 2 else if d = 3 then 1 else if d = 4 then 0 else if d = 5 then 2 else -1
def keyLess (a b c d : Int) : Bool := decide (a < c) || (decide (a = c) && decide (b < d))

/-- The table of parties lies in memory. -/
def Laid (w : World) : Prop := 2 < w.heap.size ∧ w.cell? ⟨2, 0, none⟩ = some (.int .i64 1) ∧ w.cell? ⟨2, 1, none⟩ = some (.int .i64 0) ∧ w.cell? ⟨2, 2, none⟩ = some (.int .i64 2) ∧
  w.cell? ⟨2, 3, none⟩ = some (.int .i64 1) ∧ w.cell? ⟨2, 4, none⟩ = some (.int .i64 0) ∧ w.cell? ⟨2, 5, none⟩ = some (.int .i64 2)
theorem Laid.below {B : Nat} {w w' : World} (h : Laid w) (hb : Below B w w') (hB : 2 < B) : Laid w' := by
  have hs := hb.size
  obtain ⟨h0, h⟩ := h
  obtain ⟨hc, _⟩ := bcell hb
  refine ⟨by omega, ?_⟩
  rw [hc _ 0 hB, hc _ 1 hB, hc _ 2 hB, hc _ 3 hB, hc _ 4 hB, hc _ 5 hB]
  exact h

theorem Laid.later {W x : World} {B : Nat} (h : Laid W) (hB : 2 < B) : Laid (later W B x) := h.below (later_below W B x) hB

theorem is_any (d : Int) (w : World) : Calls Tryd.prog 80 #[.int .i64 d] w fun e w' => e = .returned (.bool (isDeed d)) ∧ Below w.heap.size w w' := by
  by_cases h : 0 ≤ d
  · go_enter Tryd.func80, Tryd.ntmps80
    go_wp2
    go_ret
    exact ⟨by simp [isDeed, h], (by with_reducible (repeat (first | exact Below.refl _ _ | assumption | refine Below.drew ?_ | refine below_drewN ?_ _ | refine Below.alloc ?_ (by first | (simp; done) | omega | (simp; omega)) _ | refine Below.setCell ?_ (by first | (simp; done) | omega | (simp; omega)) _)))⟩
  · go_enter Tryd.func80, Tryd.ntmps80
    go_wp2
    go_ret
    exact ⟨by simp [isDeed, show ¬ 0 ≤ d by omega], (by with_reducible (repeat (first | exact Below.refl _ _ | assumption | refine Below.drew ?_ | refine below_drewN ?_ _ | refine Below.alloc ?_ (by first | (simp; done) | omega | (simp; omega)) _ | refine Below.setCell ?_ (by first | (simp; done) | omega | (simp; omega)) _)))⟩

theorem party_any (d : Int) (w : World) (hL : Laid w) : Calls Tryd.prog 105 #[.int .i64 d] w fun e w' => e = .returned (.int .i64 (partyOf d)) ∧ Below w.heap.size w w' := by
  obtain ⟨h0, c0, c1, c2, c3, c4, c5⟩ := hL
  by_cases h : 0 ≤ d ∧ d < 6
  · have hd : d = 0 ∨ d = 1 ∨ d = 2 ∨ d = 3 ∨ d = 4 ∨ d = 5 := by omega
    rcases hd with rfl | rfl | rfl | rfl | rfl | rfl
    all_goals
      go_enter Tryd.func105, Tryd.ntmps105
      go_wp2
      go_ret
      exact ⟨rfl, (by with_reducible (repeat (first | exact Below.refl _ _ | assumption | refine Below.drew ?_ | refine below_drewN ?_ _ | refine Below.alloc ?_ (by first | (simp; done) | omega | (simp; omega)) _ | refine Below.setCell ?_ (by first | (simp; done) | omega | (simp; omega)) _)))⟩
  · have hn : isDeed d = false := by simp [isDeed]; omega
    have hp : partyOf d = -1 := by unfold partyOf; repeat (rw [if_neg (by omega)])
    go_enter Tryd.func105, Tryd.ntmps105
    go_wp2_with (go_at_call 80; go_must (refine (is_any _ _).mono ?_; rintro e w1 ⟨rfl, hb⟩))
    go_ret
    exact ⟨ret_int hp.symm, hb⟩

theorem refParty_any (d : Int) (w : World) : Calls Tryd.prog 104 #[.int .i64 d] w fun e w' => e = .returned (.int .i64 (partyOf d)) ∧ Below w.heap.size w w' := by
  by_cases h : 0 ≤ d ∧ d < 6
  · have hd : d = 0 ∨ d = 1 ∨ d = 2 ∨ d = 3 ∨ d = 4 ∨ d = 5 := by omega
    rcases hd with rfl | rfl | rfl | rfl | rfl | rfl
    all_goals
      go_enter Tryd.func104, Tryd.ntmps104
      go_wp2
      go_ret
      exact ⟨rfl, (by with_reducible (repeat (first | exact Below.refl _ _ | assumption | refine Below.drew ?_ | refine below_drewN ?_ _ | refine Below.alloc ?_ (by first | (simp; done) | omega | (simp; omega)) _ | refine Below.setCell ?_ (by first | (simp; done) | omega | (simp; omega)) _)))⟩
  · have hp : partyOf d = -1 := by unfold partyOf; repeat (rw [if_neg (by omega)])
    by_cases h1 : d < 0
    all_goals
      go_enter Tryd.func104, Tryd.ntmps104
      go_wp2
      go_ret
      first | exact ⟨ret_int hp.symm, (by with_reducible (repeat (first | exact Below.refl _ _ | assumption | refine Below.drew ?_ | refine below_drewN ?_ _ | refine Below.alloc ?_ (by first | (simp; done) | omega | (simp; omega)) _ | refine Below.setCell ?_ (by first | (simp; done) | omega | (simp; omega)) _)))⟩ | exact ⟨rfl, (by with_reducible (repeat (first | exact Below.refl _ _ | assumption | refine Below.drew ?_ | refine below_drewN ?_ _ | refine Below.alloc ?_ (by first | (simp; done) | omega | (simp; omega)) _ | refine Below.setCell ?_ (by first | (simp; done) | omega | (simp; omega)) _)))⟩

theorem keyCheck_any (o d : Int) (w : World) : Calls Tryd.prog 62 #[.agg #[.int .i64 o, .int .i64 d]] w fun e w' => e = .returned (.bool (keyOk o d)) ∧ Below w.heap.size w w' := by
  go_enter Tryd.func62, Tryd.ntmps62
  go_wp2_with (go_at_call 80; go_must (refine (is_any _ _).mono ?_; rintro e w1 ⟨rfl, hb⟩))
  all_goals go_ret
  all_goals refine ⟨ret_bool ?_, (by with_reducible (repeat (first | assumption | exact Below.refl _ _ | refine Below.drew ?_ | refine below_drewN ?_ _ | refine Below.alloc ?_ (by first | (simp; done) | omega | (simp; omega)) _ | refine Below.setCell ?_ (by first | (simp; done) | omega | (simp; omega)) _ | refine Below.trans ?_ (Below.mono (by assumption) (by first | (simp; done) | omega | (simp; omega))))))⟩
  all_goals (rw [Bool.eq_iff_iff]; simp [keyOk, isDeed] <;> omega)

theorem refKeyCheck_any (o d : Int) (w : World) : Calls Tryd.prog 100 #[.agg #[.int .i64 o, .int .i64 d]] w fun e w' => e = .returned (.bool (keyOk o d)) ∧ Below w.heap.size w w' := by
  go_enter Tryd.func100, Tryd.ntmps100
  go_wp2
  all_goals (go_ret; refine ⟨ret_bool ?_, (by with_reducible (repeat (first | exact Below.refl _ _ | assumption | refine Below.drew ?_ | refine below_drewN ?_ _ | refine Below.alloc ?_ (by first | (simp; done) | omega | (simp; omega)) _ | refine Below.setCell ?_ (by first | (simp; done) | omega | (simp; omega)) _)))⟩; rw [Bool.eq_iff_iff]; simp [keyOk, isDeed] <;> first | omega | grind)

theorem less_any (a b c d : Int) (w : World) : Calls Tryd.prog 94 #[.agg #[.int .i64 a, .int .i64 b], .agg #[.int .i64 c, .int .i64 d]] w fun e w' => e = .returned (.bool (keyLess a b c d)) ∧ Below w.heap.size w w' := by
  go_enter Tryd.func94, Tryd.ntmps94
  go_wp2
  all_goals (go_ret; refine ⟨ret_bool ?_, (by with_reducible (repeat (first | exact Below.refl _ _ | assumption | refine Below.drew ?_ | refine below_drewN ?_ _ | refine Below.alloc ?_ (by first | (simp; done) | omega | (simp; omega)) _ | refine Below.setCell ?_ (by first | (simp; done) | omega | (simp; omega)) _)))⟩; rw [Bool.eq_iff_iff]; simp [keyLess] <;> first | omega | grind)

theorem refLess_any (a b c d : Int) (w : World) : Calls Tryd.prog 113 #[.agg #[.int .i64 a, .int .i64 b], .agg #[.int .i64 c, .int .i64 d]] w fun e w' => e = .returned (.bool (keyLess a b c d)) ∧ Below w.heap.size w w' := by
  go_enter Tryd.func113, Tryd.ntmps113
  go_wp2
  all_goals (go_ret; refine ⟨ret_bool ?_, (by with_reducible (repeat (first | exact Below.refl _ _ | assumption | refine Below.drew ?_ | refine below_drewN ?_ _ | refine Below.alloc ?_ (by first | (simp; done) | omega | (simp; omega)) _ | refine Below.setCell ?_ (by first | (simp; done) | omega | (simp; omega)) _)))⟩; rw [Bool.eq_iff_iff]; simp [keyLess] <;> first | omega | grind)
end Go.Proofs.YtibabfedpdoofaaDoor
namespace Go.Proofs.YtibabfedpdoofaaDoor
open Go.RowKit Go.Own

def putOrd (id : Int) (ref sku : List UInt8) (qty amt : Int) : List UInt8 :=
  if ordCheck id ref sku qty amt = 0 then varF 10 id.toNat ++ textB ref ++ textB sku ++ varF 10 qty.toNat ++ varF 10 amt.toNat else []
theorem textB_len {l : List UInt8} {n : Nat} (h : l.length ≤ n) : (textB l).length ≤ n + 10 := by
  unfold textB; have := varF_len 10 l.length; simp; omega

end Go.Proofs.YtibabfedpdoofaaDoor
namespace Go.Proofs.YtibabfedpdoofaaDoor
open Go.RowKit Go.Own

/-- A reader: what is left, and whether all was well. -/
abbrev Rdr := List UInt8 × Bool
def rdNum (most : Nat) (st : Rdr) : Nat × Rdr := match readB st.1 with
  | some (n, r) => if st.2 = true ∧ n ≤ most then (n, (r, true)) else (0, (r, false))
  | none => (0, ([], false))
def rdText (st : Rdr) : List UInt8 × Rdr := match cutB st.1 with
  | some (s, r) => (s, (r, st.2))
  | none => ([], ([], false))

/-- What a call of the reader leaves: memory grown, but for the reader's own block, and the reader's two cells. -/
structure After (b : Nat) (w : World) (st : Rdr) (w' : World) : Prop where
  os : w'.os = w.os
  tape : w'.tape = w.tape
  output : w'.output = w.output
  size : w.heap.size ≤ w'.heap.size
  block : ∀ k, k < w.heap.size → k ≠ b → w'.heap[k]? = w.heap[k]?
  c0 : w'.cell? ⟨b, 0, none⟩ = some (.string ⟨st.1.toArray⟩)
  c1 : w'.cell? ⟨b, 1, none⟩ = some (.bool st.2)
  f0 : w'.frozen? ⟨b, 0, none⟩ = false
  f1 : w'.frozen? ⟨b, 1, none⟩ = false
theorem After.cells {b : Nat} {w : World} {st : Rdr} {w' : World} (h : After b w st w') : (∀ k o, k < w.heap.size → k ≠ b → w'.cell? ⟨k, o, none⟩ = w.cell? ⟨k, o, none⟩) ∧ (∀ k o, k < w.heap.size → k ≠ b → w'.frozen? ⟨k, o, none⟩ = w.frozen? ⟨k, o, none⟩) :=
  ⟨fun k o hk hne => World.cell?_of_block (w := w) (a := ⟨k, o, none⟩) (h.block k hk hne), fun k o hk hne => World.frozen?_of_block (w := w) (a := ⟨k, o, none⟩) (h.block k hk hne)⟩
theorem After.below {b B : Nat} {a w : World} {st : Rdr} {w' : World} (h : After b w st w') (hb : Below B a w) (h1 : B ≤ b) (h2 : B ≤ w.heap.size) : Below B a w' :=
  hb.trans ⟨h.os, h.tape, h.output, h.size, fun k hk => h.block k (by omega) (by omega)⟩
theorem setCell_isSome {w : World} {a c : Addr} {v : Value} (h : (w.cell? c).isSome = true) : ((w.setCell a v).cell? c).isSome = true := by
  obtain ⟨u, hu⟩ := Option.isSome_iff_exists.1 h
  by_cases e : a = c
  · subst e; rw [World.cell?_setCell_same _ _ _ hu]; rfl
  · rw [World.cell?_setCell_other _ _ _ _ e, hu]; rfl
theorem after_mk {b : Nat} {w w1 : World} {x : List UInt8} {y : Bool} {u0 u1 : Value} (hb : Below w.heap.size w w1) (hb0 : b < w.heap.size) (c0 : w.cell? ⟨b, 0, none⟩ = some u0) (c1 : w.cell? ⟨b, 1, none⟩ = some u1)
    (f0 : w.frozen? ⟨b, 0, none⟩ = false) (f1 : w.frozen? ⟨b, 1, none⟩ = false) (st : Rdr) (hst : st = (x, y)) :
    After b w st ((w1.setCell ⟨b, 0, none⟩ (.string ⟨x.toArray⟩)).setCell ⟨b, 1, none⟩ (.bool y)) := by
  subst hst
  obtain ⟨hc, hf⟩ := bcell hb
  have e0 : w1.cell? ⟨b, 0, none⟩ = some u0 := (hc b 0 hb0).trans c0
  have e1 : w1.cell? ⟨b, 1, none⟩ = some u1 := (hc b 1 hb0).trans c1
  have hsz := hb.size
  refine ⟨hb.os, hb.tape, hb.output, by simpa using hsz, fun k hk hne => ?_, ?_, ?_, ?_, ?_⟩
  · rw [Below.heap_setCell _ _ _ _ hne, Below.heap_setCell _ _ _ _ hne]; exact hb.block k hk
  · rw [World.cell?_setCell_other _ _ _ _ (by simp), World.cell?_setCell_same _ _ _ e0]
  · refine World.cell?_setCell_same (u := u1) _ _ _ ?_
    rw [World.cell?_setCell_other _ _ _ _ (by simp)]; exact e1
  · simp [hf b 0 hb0, f0]
  · simp [hf b 1 hb0, f1]

end Go.Proofs.YtibabfedpdoofaaDoor
namespace Go.Proofs.YtibabfedpdoofaaDoor
open Go.RowKit Go.Own

theorem rdFrom_some : ∀ (l : List UInt8) (i n : Nat) (r : List UInt8), i < 10 → rdFrom i l = some (n, r) → n < 2 ^ (64 - 7 * i) ∧ (0 < i → 0 < n) ∧ l = varF (10 - i) n ++ r
  | [], _, _, _, _, h => by simp [rdFrom] at h
  | c :: l, i, n, r, hi, h => by
    unfold rdFrom at h
    rw [if_neg (by omega)] at h
    have hc := c.toNat_lt
    by_cases h128 : 128 ≤ c.toNat
    · rw [if_pos h128] at h
      cases h1 : rdFrom (i + 1) l with
      | none => rw [h1] at h; cases h
      | some x =>
        obtain ⟨m, q⟩ := x
        rw [h1] at h
        simp only [Option.map_some, Option.some.injEq, Prod.mk.injEq] at h
        obtain ⟨rfl, rfl⟩ := h
        have h10 : i + 1 < 10 := by
          rcases Nat.lt_or_ge (i + 1) 10 with h | h
          · exact h
          · cases l with
            | nil => simp [rdFrom] at h1
            | cons d l => unfold rdFrom at h1; rw [if_pos h] at h1; cases h1
        obtain ⟨a1, a2, a3⟩ := rdFrom_some l (i + 1) m q h10 h1
        have hm := a2 (by omega)
        have e : 2 ^ (64 - 7 * i) = 2 ^ (64 - 7 * (i + 1)) * 128 := by
          rw [show 64 - 7 * i = (64 - 7 * (i + 1)) + 7 by omega, Nat.pow_add]
        refine ⟨by rw [e]; omega, fun _ => by omega, ?_⟩
        rw [show 10 - i = (10 - (i + 1)) + 1 by omega, varF, if_neg (by omega), show (c.toNat % 128 + 128 * m) / 128 = m by omega, a3, List.cons_append]
        congr 1
        apply UInt8.toNat.inj
        simp; omega
    · rw [if_neg h128] at h
      split at h
      · cases h
      · rename_i hb
        simp only [Option.some.injEq, Prod.mk.injEq] at h
        obtain ⟨rfl, rfl⟩ := h
        refine ⟨?_, fun h0 => ?_, ?_⟩
        · by_cases h9 : i = 9
          · subst h9
            have : c.toNat ≤ 1 := by
              rcases Nat.lt_or_ge 1 c.toNat with h | h
              · exact absurd (.inr ⟨rfl, h⟩) hb
              · exact h
            omega
          · have : 2 ^ 8 ≤ 2 ^ (64 - 7 * i) := Nat.pow_le_pow_right (by decide) (by omega)
            omega
        · rcases Nat.eq_zero_or_pos c.toNat with h | h
          · exact absurd (.inl ⟨h0, h⟩) hb
          · exact h
        · rw [show 10 - i = (9 - i) + 1 by omega, varF, if_pos (by omega)]
          simp
theorem rdFrom_varF : ∀ (k i n : Nat) (r : List UInt8), i + k = 10 → 0 < k → n < 2 ^ (64 - 7 * i) → (0 < i → 0 < n) → rdFrom i (varF k n ++ r) = some (n, r)
  | 0, _, _, _, _, h, _, _ => absurd h (by decide)
  | k + 1, i, n, r, hik, _, hn, h0 => by
    unfold varF
    by_cases hlt : n < 128
    · rw [if_pos hlt]
      have e : (UInt8.ofNat n).toNat = n := by simp; omega
      simp only [List.cons_append, List.nil_append, rdFrom]
      rw [if_neg (by omega), e, if_neg (by omega), if_neg]
      rintro (⟨h1, h2⟩ | ⟨h1, h2⟩)
      · have := h0 h1; omega
      · subst h1; simp at hn; omega
    · rw [if_neg hlt]
      have e : (UInt8.ofNat (n % 128 + 128)).toNat = n % 128 + 128 := by simp; omega
      simp only [List.cons_append, rdFrom]
      have hk : 0 < k := by
        rcases Nat.eq_zero_or_pos k with rfl | h
        · have : i = 9 := by omega
          subst this; simp at hn; omega
        · exact h
      have e2 : 2 ^ (64 - 7 * i) = 2 ^ (64 - 7 * (i + 1)) * 128 := by
        rw [show 64 - 7 * i = (64 - 7 * (i + 1)) + 7 by omega, Nat.pow_add]
      rw [if_neg (by omega), e, if_pos (by omega), rdFrom_varF k (i + 1) (n / 128) r (by omega) hk (by rw [e2] at hn; exact Nat.div_lt_of_lt_mul (by rw [Nat.mul_comm]; exact hn)) (fun _ => by omega)]
      simp only [Option.map_some, Option.some.injEq, Prod.mk.injEq, and_true]
      omega
theorem readB_iff {l : List UInt8} {n : Nat} {r : List UInt8} : readB l = some (n, r) ↔ n < 18446744073709551616 ∧ l = varF 10 n ++ r := by
  constructor
  · intro h
    obtain ⟨a, _, b⟩ := rdFrom_some l 0 n r (by decide) h
    exact ⟨a, b⟩
  · rintro ⟨a, rfl⟩
    exact rdFrom_varF 10 0 n r rfl (by decide) a (fun h => absurd h (by decide))
theorem cutB_iff {l s r : List UInt8} : cutB l = some (s, r) ↔ s.length < 18446744073709551616 ∧ l = textB s ++ r := by
  unfold cutB textB
  constructor
  · intro h
    cases hr : readB l with
    | none => rw [hr] at h; cases h
    | some x =>
      obtain ⟨n, q⟩ := x
      obtain ⟨a, b⟩ := readB_iff.1 hr
      rw [hr] at h
      simp only at h
      split at h
      · rename_i hn
        simp only [Option.some.injEq, Prod.mk.injEq] at h
        obtain ⟨rfl, rfl⟩ := h
        have e : (q.take n).length = n := by simp; omega
        rw [e, List.append_assoc, List.take_append_drop]
        exact ⟨a, b⟩
      · cases h
  · rintro ⟨a, rfl⟩
    have := (readB_iff (l := varF 10 s.length ++ s ++ r) (n := s.length) (r := s ++ r)).2 ⟨a, by rw [List.append_assoc]⟩
    rw [this]
    simp
theorem rdNum_ok {most : Nat} {st : Rdr} (h : (rdNum most st).2.2 = true) : st.2 = true ∧ (rdNum most st).1 ≤ most ∧ (rdNum most st).1 < 18446744073709551616 ∧ st.1 = varF 10 (rdNum most st).1 ++ (rdNum most st).2.1 := by
  unfold rdNum at h ⊢
  cases hr : readB st.1 with
  | none => rw [hr] at h; cases h
  | some x =>
    obtain ⟨n, r⟩ := x
    rw [hr] at h
    simp only at h ⊢
    by_cases hc : st.2 = true ∧ n ≤ most
    · rw [if_pos hc]
      obtain ⟨a, b⟩ := readB_iff.1 hr
      exact ⟨hc.1, hc.2, a, b⟩
    · rw [if_neg hc] at h; cases h
theorem rdText_ok {st : Rdr} (h : (rdText st).2.2 = true) : st.2 = true ∧ (rdText st).1.length < 18446744073709551616 ∧ st.1 = textB (rdText st).1 ++ (rdText st).2.1 := by
  unfold rdText at h ⊢
  cases hr : cutB st.1 with
  | none => rw [hr] at h; cases h
  | some x =>
    obtain ⟨s, r⟩ := x
    rw [hr] at h
    obtain ⟨a, b⟩ := cutB_iff.1 hr
    exact ⟨h, a, b⟩
theorem rdNum_put {most n : Nat} {r : List UInt8} (h : n ≤ most) (hb : n < 18446744073709551616) : rdNum most (varF 10 n ++ r, true) = (n, (r, true)) := by
  unfold rdNum
  rw [readB_iff.2 ⟨hb, rfl⟩]
  simp [h]
theorem rdText_put {s r : List UInt8} (h : s.length < 18446744073709551616) : rdText (textB s ++ r, true) = (s, (r, true)) := by
  unfold rdText
  rw [cutB_iff.2 ⟨h, rfl⟩]

/-- The order of some bytes. -/
def getOrd (l : List UInt8) : Option (Nat × List UInt8 × List UInt8 × Nat × Nat) :=
  let a := rdNum 60 (l, true)
  let b := rdText a.2
  let c := rdText b.2
  let d := rdNum 999 c.2
  let e := rdNum 1099511627776 d.2
  if e.2.2 = true ∧ e.2.1 = [] ∧ ordCheck a.1 b.1 c.1 d.1 e.1 = 0 then some (a.1, b.1, c.1, d.1, e.1) else none

theorem getOrd_some {l : List UInt8} {id qty amt : Nat} {ref sku : List UInt8} (h : getOrd l = some (id, ref, sku, qty, amt)) : ordCheck id ref sku qty amt = 0 ∧ putOrd id ref sku qty amt = l := by
  unfold getOrd at h
  simp only at h
  split at h
  · rename_i hc
    obtain ⟨h1, h2, h3⟩ := hc
    simp only [Option.some.injEq, Prod.mk.injEq] at h
    obtain ⟨rfl, rfl, rfl, rfl, rfl⟩ := h
    refine ⟨h3, ?_⟩
    rw [putOrd, if_pos h3]
    obtain ⟨k1, _, _, e1⟩ := rdNum_ok h1
    obtain ⟨k2, _, _, e2⟩ := rdNum_ok k1
    obtain ⟨k3, _, e3⟩ := rdText_ok k2
    obtain ⟨k4, _, e4⟩ := rdText_ok k3
    obtain ⟨_, _, _, e5⟩ := rdNum_ok k4
    simp only [Int.toNat_natCast]
    simp only at e5
    rw [h2] at e1
    rw [e1] at e2
    rw [e2] at e3
    rw [e3] at e4
    rw [e4] at e5
    refine Eq.trans ?_ e5.symm
    simp
  · cases h
theorem getOrd_put {id qty amt : Int} {ref sku : List UInt8} (h : ordCheck id ref sku qty amt = 0) : getOrd (putOrd id ref sku qty amt) = some (id.toNat, ref, sku, qty.toNat, amt.toNat) := by
  obtain ⟨a1, a2, a3, a4, a5, a6, _, _, a9, a10, _, _⟩ := ordCheck_ok h
  rw [putOrd, if_pos h]
  have e : varF 10 id.toNat ++ textB ref ++ textB sku ++ varF 10 qty.toNat ++ varF 10 amt.toNat = varF 10 id.toNat ++ (textB ref ++ (textB sku ++ (varF 10 qty.toNat ++ (varF 10 amt.toNat ++ [])))) := by simp
  rw [e]
  unfold getOrd
  simp only
  rw [rdNum_put (by omega) (by omega)]
  simp only
  rw [rdText_put (by omega)]
  simp only
  rw [rdText_put (by omega)]
  simp only
  rw [rdNum_put (by omega) (by omega)]
  simp only
  rw [rdNum_put (by omega) (by omega)]
  simp only
  rw [show ((id.toNat : Nat) : Int) = id by omega, show ((qty.toNat : Nat) : Int) = qty by omega, show ((amt.toNat : Nat) : Int) = amt by omega, if_pos ⟨by trivial, by trivial, h⟩]

theorem rdNum_len (most : Nat) (st : Rdr) : (rdNum most st).2.1.length ≤ st.1.length := by
  unfold rdNum
  cases hr : readB st.1 with
  | none => simp
  | some x =>
    obtain ⟨n, r⟩ := x
    have := readB_len hr
    simp only
    split <;> simp <;> omega
theorem rdText_len (st : Rdr) : (rdText st).2.1.length ≤ st.1.length ∧ (rdText st).1.length ≤ st.1.length := by
  unfold rdText
  cases hr : cutB st.1 with
  | none => simp
  | some x =>
    obtain ⟨s, r⟩ := x
    have := (cutB_iff.1 hr).2
    rw [this]
    unfold textB
    simp; omega

def retGet (o : Option (Nat × List UInt8 × List UInt8 × Nat × Nat)) : Value := match o with
  | some (id, ref, sku, qty, amt) => .tuple #[.agg #[.int .i64 id, .string ⟨ref.toArray⟩, .string ⟨sku.toArray⟩, .int .i64 qty, .int .i64 amt], .int .i64 0]
  | none => .tuple #[.agg #[.int .i64 0, .string ⟨#[]⟩, .string ⟨#[]⟩, .int .i64 0, .int .i64 0], .int .i64 10]

end Go.Proofs.YtibabfedpdoofaaDoor
namespace Go.Proofs.YtibabfedpdoofaaDoor
open Go.RowKit Go.Own

/-- A reader's two cells. -/
def rdCs (st : Rdr) : List Value := [.string ⟨st.1.toArray⟩, .bool st.2]
def rdMost : Nat := 1099511627776

end Go.Proofs.YtibabfedpdoofaaDoor
namespace Go.Proofs.YtibabfedpdoofaaDoor
open Go.RowKit Go.Own

/-- The numbers of some bytes: none, if something else stands there. -/
def numsF : Nat → List UInt8 → Option (List Nat)
  | _, [] => some []
  | 0, _ => none
  | k + 1, l => match readB l with
    | some (n, r) => if n ≤ rdMost then (numsF k r).map (n :: ·) else none
    | none => none
theorem numsF_fuel : ∀ (k m : Nat) (l : List UInt8), l.length ≤ k → l.length ≤ m → numsF k l = numsF m l
  | k, m, [], _, _ => by cases k <;> cases m <;> rfl
  | 0, _, _ :: _, h, _ => by simp at h
  | _, 0, _ :: _, _, h => by simp at h
  | k + 1, m + 1, c :: l, h1, h2 => by
    simp only [numsF]
    cases hr : readB (c :: l) with
    | none => rfl
    | some x =>
      obtain ⟨n, r⟩ := x
      have := readB_len hr
      simp only [List.length_cons] at this h1 h2
      simp only
      rw [numsF_fuel k m r (by omega) (by omega)]
def numsOf (l : List UInt8) : Option (List Nat) := numsF l.length l
theorem numsOf_nil : numsOf [] = some [] := rfl
theorem numsOf_none {l : List UInt8} (h0 : l ≠ []) (h : readB l = none) : numsOf l = none := by
  unfold numsOf
  cases l with
  | nil => exact absurd rfl h0
  | cons c l => simp only [List.length_cons, numsF, h]
theorem numsOf_some {l r : List UInt8} {n : Nat} (h0 : l ≠ []) (h : readB l = some (n, r)) : numsOf l = if n ≤ rdMost then (numsOf r).map (n :: ·) else none := by
  have hl := readB_len h
  unfold numsOf
  cases l with
  | nil => exact absurd rfl h0
  | cons c l =>
    simp only [List.length_cons, numsF, h]
    simp only [List.length_cons] at hl
    rw [numsF_fuel l.length r.length r (by omega) (by omega)]

def numC (n : Nat) : List Value := [.int .u64 n]
theorem numLen (A : List Nat) : ∀ l ∈ A.map numC, l.length = 1 := fun l hl => by obtain ⟨x, _, rfl⟩ := List.mem_map.1 hl; rfl
/-- What the call hands back: the numbers, in memory of the caller's own. -/
def NumsPost (l : List UInt8) (W : World) (L : List Ent) (e : Ending) (w' : World) : Prop := match numsOf l with
  | some A => ∃ v', e = .returned (.tuple #[v', .bool true]) ∧ Own W w' (row 157 1 v' (A.map numC) :: L)
  | none => e = .returned (.tuple #[.slice none 0 0, .bool false]) ∧ Own W w' L

end Go.Proofs.YtibabfedpdoofaaDoor
namespace Go.Proofs.YtibabfedpdoofaaDoor
open Go.RowKit Go.Own

theorem Laid.deep {w W x : World} {B : Nat} (hL : Laid w) (hpos : 2 < w.heap.size) (h : Below w.heap.size w W) (hB : w.heap.size ≤ B) : Laid (Go.Own.later W B x) :=
  hL.below (h.trans ((later_below W B x).mono hB)) hpos
end Go.Proofs.YtibabfedpdoofaaDoor
namespace Go.Proofs.YtibabfedpdoofaaDoor
open Go.RowKit Go.Own

structure RowS where
  o : Int
  d : Int
  code : Int
  amt : Int
  qty : Int
def RowS.cells (r : RowS) : Array Value := #[.int .i64 r.o, .int .i64 r.d, .int .i64 r.code, .int .i64 r.amt, .int .i64 r.qty]
def RowS.v (r : RowS) : Value := .agg #[.int .i64 r.o, .int .i64 r.d, .int .i64 r.code, .int .i64 r.amt, .int .i64 r.qty]
def mayRow (r : RowS) (p : Int) : Bool := keyOk r.o r.d && decide (partyOf r.d = p) && (decide (r.code = 1) || decide (r.code = 2)) &&
  (if r.code = 2 then decide (r.amt = 0) && decide (r.qty = 0)
   else if p = 0 then decide (r.qty = 0) && decide (0 ≤ r.amt) && decide (r.amt ≤ 1099511627776)
   else decide (r.amt = 0) && decide (0 ≤ r.qty) && decide (r.qty ≤ 999))

set_option maxHeartbeats 4000000 in
set_option maxRecDepth 100000 in
theorem rowMay_any (r : RowS) (p : Int) (w : World) (hL : Laid w) : Calls Tryd.prog 93 #[r.v, .int .i64 p] w fun e w' => e = .returned (.bool (mayRow r p)) ∧ Below w.heap.size w w' := by
  obtain ⟨o, d, code, amt, qty⟩ := r
  have HQ : mayRow ⟨o, d, code, amt, qty⟩ p = mayRow ⟨o, d, code, amt, qty⟩ p := rfl
  conv at HQ => rhs; unfold mayRow
  simp only at HQ
  have hK := fun w => keyCheck_any o d w
  have hP := fun w hL => party_any d w hL
  have HL := Lib.hid hL
  have hpos : 2 < w.heap.size := hL.1
  clear hL
  simp only [RowS.v]
  cases hk : keyOk o d
  · rw [hk] at HQ hK
    simp only [Bool.false_and] at HQ
    have HQ := Lib.hid HQ
    clear hk
    go_enter Tryd.func93, Tryd.ntmps93
    go_wp2_with (go_at_call 62; go_must ((with_reducible refine (hK _).mono ?_); rintro e w1 ⟨rfl, hb⟩; obtain ⟨hc, hf⟩ := bcell hb; have hz := hb.size; (try simp at hz); (try have hzT := Nat.lt_of_succ_le hz); have hzA : w.heap.size < w1.heap.size := (by omega); have hzA2 := Nat.le_of_lt hzA))
    go_ret
    exact ⟨by rw [HQ.out]; rfl, (by with_reducible (repeat (first | assumption | exact Below.refl _ _ | refine Below.drew ?_ | refine below_drewN ?_ _ | refine Below.alloc ?_ (by first | (simp; done) | omega | (simp; omega)) _ | refine Below.setCell ?_ (by first | (simp; done) | omega | (simp; omega)) _ | refine Below.trans ?_ (Below.mono (by assumption) (by first | (simp; done) | omega | (simp; omega))))))⟩
  · rw [hk] at HQ hK
    clear hk
    generalize partyOf d = q at *
    by_cases ht : q = p
    · subst ht
      simp only [decide_true, Bool.true_and, Bool.and_true] at HQ
      have HQ := Lib.hid HQ
      by_cases hc1 : code = 1
      · subst hc1
        by_cases h0 : q = 0
        · subst h0
          go_enter Tryd.func93, Tryd.ntmps93
          go_wp2_with (first | (go_at_call 62; go_must ((with_reducible refine (hK _).mono ?_); rintro e w1 ⟨rfl, hb⟩; obtain ⟨hc, hf⟩ := bcell hb; have hz := hb.size; (try simp at hz); (try have hzT := Nat.lt_of_succ_le hz); have hzA : w.heap.size < w1.heap.size := (by omega); have hzA2 := Nat.le_of_lt hzA)) | (go_at_call 105; go_must ((with_reducible refine (hP _ (by exact HL.out.below (by with_reducible (repeat (first | assumption | exact Below.refl _ _ | refine Below.drew ?_ | refine below_drewN ?_ _ | refine Below.alloc ?_ (by first | (simp; done) | omega | (simp; omega)) _ | refine Below.setCell ?_ (by first | (simp; done) | omega | (simp; omega)) _ | refine Below.trans ?_ (Below.mono (by assumption) (by first | (simp; done) | omega | (simp; omega)))))) hpos)).mono ?_); rintro e w1 ⟨rfl, hb⟩; obtain ⟨hc, hf⟩ := bcell hb; have hz := hb.size; (try simp at hz); (try have hzT := Nat.lt_of_succ_le hz); have hzA : w.heap.size < w1.heap.size := (by omega); have hzA2 := Nat.le_of_lt hzA)))
          all_goals go_ret
          all_goals refine ⟨ret_bool ?_, (by with_reducible (repeat (first | assumption | exact Below.refl _ _ | refine Below.drew ?_ | refine below_drewN ?_ _ | refine Below.alloc ?_ (by first | (simp; done) | omega | (simp; omega)) _ | refine Below.setCell ?_ (by first | (simp; done) | omega | (simp; omega)) _ | refine Below.trans ?_ (Below.mono (by assumption) (by first | (simp; done) | omega | (simp; omega))))))⟩
          all_goals (have hq := HQ.out; clear HQ HL hK hP hc hf; first | (simp_all; done) | (simp_all; omega) | (rw [hq, Bool.eq_iff_iff]; simp [*] <;> omega) | (rw [hq, Bool.eq_iff_iff]; simp; grind))
        · have h0b : (q == 0) = false := by simpa using h0
          go_enter Tryd.func93, Tryd.ntmps93
          go_wp2_with (first | (go_at_call 62; go_must ((with_reducible refine (hK _).mono ?_); rintro e w1 ⟨rfl, hb⟩; obtain ⟨hc, hf⟩ := bcell hb; have hz := hb.size; (try simp at hz); (try have hzT := Nat.lt_of_succ_le hz); have hzA : w.heap.size < w1.heap.size := (by omega); have hzA2 := Nat.le_of_lt hzA)) | (go_at_call 105; go_must ((with_reducible refine (hP _ (by exact HL.out.below (by with_reducible (repeat (first | assumption | exact Below.refl _ _ | refine Below.drew ?_ | refine below_drewN ?_ _ | refine Below.alloc ?_ (by first | (simp; done) | omega | (simp; omega)) _ | refine Below.setCell ?_ (by first | (simp; done) | omega | (simp; omega)) _ | refine Below.trans ?_ (Below.mono (by assumption) (by first | (simp; done) | omega | (simp; omega)))))) hpos)).mono ?_); rintro e w1 ⟨rfl, hb⟩; obtain ⟨hc, hf⟩ := bcell hb; have hz := hb.size; (try simp at hz); (try have hzT := Nat.lt_of_succ_le hz); have hzA : w.heap.size < w1.heap.size := (by omega); have hzA2 := Nat.le_of_lt hzA)))
          all_goals go_ret
          all_goals refine ⟨ret_bool ?_, (by with_reducible (repeat (first | assumption | exact Below.refl _ _ | refine Below.drew ?_ | refine below_drewN ?_ _ | refine Below.alloc ?_ (by first | (simp; done) | omega | (simp; omega)) _ | refine Below.setCell ?_ (by first | (simp; done) | omega | (simp; omega)) _ | refine Below.trans ?_ (Below.mono (by assumption) (by first | (simp; done) | omega | (simp; omega))))))⟩
          all_goals (have hq := HQ.out; clear HQ HL hK hP hc hf; first | (simp_all; done) | (simp_all; omega) | (rw [hq, Bool.eq_iff_iff]; simp [*] <;> omega) | (rw [hq, Bool.eq_iff_iff]; simp; grind))
      · have hc1b : (code == 1) = false := by simpa using hc1
        have hc1n : (code != 1) = true := by simpa using hc1
        by_cases hc2 : code = 2
        · subst hc2
          go_enter Tryd.func93, Tryd.ntmps93
          go_wp2_with (first | (go_at_call 62; go_must ((with_reducible refine (hK _).mono ?_); rintro e w1 ⟨rfl, hb⟩; obtain ⟨hc, hf⟩ := bcell hb; have hz := hb.size; (try simp at hz); (try have hzT := Nat.lt_of_succ_le hz); have hzA : w.heap.size < w1.heap.size := (by omega); have hzA2 := Nat.le_of_lt hzA)) | (go_at_call 105; go_must ((with_reducible refine (hP _ (by exact HL.out.below (by with_reducible (repeat (first | assumption | exact Below.refl _ _ | refine Below.drew ?_ | refine below_drewN ?_ _ | refine Below.alloc ?_ (by first | (simp; done) | omega | (simp; omega)) _ | refine Below.setCell ?_ (by first | (simp; done) | omega | (simp; omega)) _ | refine Below.trans ?_ (Below.mono (by assumption) (by first | (simp; done) | omega | (simp; omega)))))) hpos)).mono ?_); rintro e w1 ⟨rfl, hb⟩; obtain ⟨hc, hf⟩ := bcell hb; have hz := hb.size; (try simp at hz); (try have hzT := Nat.lt_of_succ_le hz); have hzA : w.heap.size < w1.heap.size := (by omega); have hzA2 := Nat.le_of_lt hzA)))
          all_goals go_ret
          all_goals refine ⟨ret_bool ?_, (by with_reducible (repeat (first | assumption | exact Below.refl _ _ | refine Below.drew ?_ | refine below_drewN ?_ _ | refine Below.alloc ?_ (by first | (simp; done) | omega | (simp; omega)) _ | refine Below.setCell ?_ (by first | (simp; done) | omega | (simp; omega)) _ | refine Below.trans ?_ (Below.mono (by assumption) (by first | (simp; done) | omega | (simp; omega))))))⟩
          all_goals (have hq := HQ.out; clear HQ HL hK hP hc hf; first | (simp_all; done) | (simp_all; omega) | (rw [hq, Bool.eq_iff_iff]; simp [*] <;> omega) | (rw [hq, Bool.eq_iff_iff]; simp; grind))
        · have hc2b : (code == 2) = false := by simpa using hc2
          have hc2n : (code != 2) = true := by simpa using hc2
          have HZ := Lib.hid (HQ.out.trans (show _ = false by simp [hc1, hc2]))
          clear HQ
          go_enter Tryd.func93, Tryd.ntmps93
          go_wp2_with (first | (go_at_call 62; go_must ((with_reducible refine (hK _).mono ?_); rintro e w1 ⟨rfl, hb⟩; obtain ⟨hc, hf⟩ := bcell hb; have hz := hb.size; (try simp at hz); (try have hzT := Nat.lt_of_succ_le hz); have hzA : w.heap.size < w1.heap.size := (by omega); have hzA2 := Nat.le_of_lt hzA)) | (go_at_call 105; go_must ((with_reducible refine (hP _ (by exact HL.out.below (by with_reducible (repeat (first | assumption | exact Below.refl _ _ | refine Below.drew ?_ | refine below_drewN ?_ _ | refine Below.alloc ?_ (by first | (simp; done) | omega | (simp; omega)) _ | refine Below.setCell ?_ (by first | (simp; done) | omega | (simp; omega)) _ | refine Below.trans ?_ (Below.mono (by assumption) (by first | (simp; done) | omega | (simp; omega)))))) hpos)).mono ?_); rintro e w1 ⟨rfl, hb⟩; obtain ⟨hc, hf⟩ := bcell hb; have hz := hb.size; (try simp at hz); (try have hzT := Nat.lt_of_succ_le hz); have hzA : w.heap.size < w1.heap.size := (by omega); have hzA2 := Nat.le_of_lt hzA)))
          go_ret
          exact ⟨by rw [HZ.out]; rfl, (by with_reducible (repeat (first | assumption | exact Below.refl _ _ | refine Below.drew ?_ | refine below_drewN ?_ _ | refine Below.alloc ?_ (by first | (simp; done) | omega | (simp; omega)) _ | refine Below.setCell ?_ (by first | (simp; done) | omega | (simp; omega)) _ | refine Below.trans ?_ (Below.mono (by assumption) (by first | (simp; done) | omega | (simp; omega))))))⟩
    · have htb : (q == p) = false := by simpa using ht
      have htn : (q != p) = true := by simpa using ht
      rw [decide_eq_false ht] at HQ
      simp only [Bool.and_false, Bool.false_and] at HQ
      have HQ := Lib.hid HQ
      clear ht
      go_enter Tryd.func93, Tryd.ntmps93
      go_wp2_with (first | (go_at_call 62; go_must ((with_reducible refine (hK _).mono ?_); rintro e w1 ⟨rfl, hb⟩; obtain ⟨hc, hf⟩ := bcell hb; have hz := hb.size; (try simp at hz); (try have hzT := Nat.lt_of_succ_le hz); have hzA : w.heap.size < w1.heap.size := (by omega); have hzA2 := Nat.le_of_lt hzA)) | (go_at_call 105; go_must ((with_reducible refine (hP _ (by exact HL.out.below (by with_reducible (repeat (first | assumption | exact Below.refl _ _ | refine Below.drew ?_ | refine below_drewN ?_ _ | refine Below.alloc ?_ (by first | (simp; done) | omega | (simp; omega)) _ | refine Below.setCell ?_ (by first | (simp; done) | omega | (simp; omega)) _ | refine Below.trans ?_ (Below.mono (by assumption) (by first | (simp; done) | omega | (simp; omega)))))) hpos)).mono ?_); rintro e w1 ⟨rfl, hb⟩; obtain ⟨hc, hf⟩ := bcell hb; have hz := hb.size; (try simp at hz); (try have hzT := Nat.lt_of_succ_le hz); have hzA : w.heap.size < w1.heap.size := (by omega); have hzA2 := Nat.le_of_lt hzA)))
      go_ret
      exact ⟨by rw [HQ.out]; rfl, (by with_reducible (repeat (first | assumption | exact Below.refl _ _ | refine Below.drew ?_ | refine below_drewN ?_ _ | refine Below.alloc ?_ (by first | (simp; done) | omega | (simp; omega)) _ | refine Below.setCell ?_ (by first | (simp; done) | omega | (simp; omega)) _ | refine Below.trans ?_ (Below.mono (by assumption) (by first | (simp; done) | omega | (simp; omega))))))⟩
end Go.Proofs.YtibabfedpdoofaaDoor

/-
  A posting posted, by walking the program's text; conditions: int64 numbers, less than 100000 postings.
-/
import Derived.Test.YthiokpjakiidjaaBkF
namespace Go.Proofs.Ythiokpjakiidjaa
open Go.RowKit Go.Own Go.Maps

theorem findP_snoc (l : List Pst) (p : Pst) (s : ByteArray) : findP (l ++ [p]) s = (findP l s).or (if p.id = s then some p else none) := by
  unfold findP
  rw [List.find?_append]
  congr 1
  simp only [List.find?_cons, List.find?_nil]
  by_cases h : p.id = s <;> simp [h]
theorem idOk_snoc {l : List Pst} {f : Lit → Option Value} {p : Pst} (h : idOk l f) (hn : findP l p.id = none) : idOk (l ++ [p]) (updF f (.string p.id.data.toList) (pstV p)) := by
  intro s hs
  rw [findP_snoc]
  unfold updF
  by_cases e : p.id = s
  · subst e
    rw [if_pos (WideAt.sameKey_self (show WideAt.IsKeyLit (.string _) from trivial)), hn, if_pos rfl]
    rfl
  · have hk : Lit.sameKey (.string s.data.toList) (.string p.id.data.toList) = false := by
      cases hc : Lit.sameKey (.string s.data.toList) (.string p.id.data.toList) with
      | false => rfl
      | true =>
        have h1 := WideAt.sameKey_eq hc
        simp only [Lit.string.injEq] at h1
        exact absurd (by
          obtain ⟨⟨a⟩⟩ := s
          cases p with
          | mk id o d c a2 =>
            obtain ⟨⟨b⟩⟩ := id
            simpa using h1.symm) e
    rw [hk, if_neg e, h s hs]
    simp
theorem updF_slot {f : Lit → Option Value} {v : Value} {n o n' o' : Int} (h1 : inI n = true) (h2 : inI o = true) (h1' : inI n' = true) (h2' : inI o' = true) : updF f (slotLit n' o') v (slotLit n o) = if n = n' ∧ o = o' then some v else f (slotLit n o) := by
  unfold updF
  by_cases e : n = n' ∧ o = o'
  · obtain ⟨rfl, rfl⟩ := e
    rw [if_pos (WideAt.sameKey_self (slotKeyed.key (slotOf_lit h1 h2))), if_pos ⟨rfl, rfl⟩]
  · have hk : (slotLit n o).sameKey (slotLit n' o') = false := by
      cases hc : (slotLit n o).sameKey (slotLit n' o') with
      | false => rfl
      | true => exact absurd (slotLit_inj h1 h2 h1' h2' (WideAt.sameKey_eq hc)) e
    rw [hk, if_neg e]
    simp
theorem BalOk_snoc {l : List Pst} {g : Lit → Option Value} {p : Pst} (h : BalOk l g) (hw : WfP p) (hm : mayPst p = true) : BalOk (l ++ [p]) (mergeF g (movesF l p)) := by
  intro n o hn ho
  have hm := mayPst_iff.1 hm
  have hg := h n o hn ho
  have z0 : inI 0 = true := rfl
  rw [bal_snoc]
  unfold mergeF movesF
  rw [updF_slot hn ho hw.c hw.o, updF_slot hn ho hw.d hw.o, updF_slot hn ho hw.c z0, updF_slot hn ho hw.d z0]
  unfold delta
  by_cases c1 : n = p.c ∧ o = p.o
  · obtain ⟨rfl, rfl⟩ := c1
    rw [if_pos ⟨rfl, rfl⟩]
    simp only [Option.getD_some, Value.int.injEq, true_and]
    rw [if_neg (by omega), if_neg (by omega), if_pos trivial]; omega
  rw [if_neg c1]
  by_cases c2 : n = p.d ∧ o = p.o
  · obtain ⟨rfl, rfl⟩ := c2
    rw [if_pos ⟨rfl, rfl⟩]
    simp only [Option.getD_some, Value.int.injEq, true_and]
    rw [if_neg (by omega), if_pos trivial]
  rw [if_neg c2]
  by_cases c3 : n = p.c ∧ o = 0
  · obtain ⟨rfl, rfl⟩ := c3
    rw [if_pos ⟨rfl, rfl⟩]
    simp only [Option.getD_some, Value.int.injEq, true_and]
    rw [if_neg (by omega), if_neg (by omega), if_pos trivial]; omega
  rw [if_neg c3]
  by_cases c4 : n = p.d ∧ o = 0
  · obtain ⟨rfl, rfl⟩ := c4
    rw [if_pos ⟨rfl, rfl⟩]
    simp only [Option.getD_some, Value.int.injEq, true_and]
    rw [if_neg (by omega), if_pos trivial]
  rw [if_neg c4]
  have e : (if o ≠ 0 ∧ p.o ≠ o then (0 : Int) else if p.d = n then p.a else if p.c = n then -p.a else 0) = 0 := by
    split
    · rfl
    · rename_i hc
      rw [if_neg (by omega), if_neg (by omega)]
  rw [e, Int.add_zero]
  exact hg
theorem movesF_int (l : List Pst) (p : Pst) : ∀ k v, movesF l p k = some v → ∃ x, v = .int .i64 x := by
  intro k v h
  unfold movesF updF at h
  repeat' split at h
  all_goals first | (cases h; exact ⟨_, rfl⟩) | cases h
theorem pstC_len (l : List Pst) : ∀ x ∈ l.map pstC, x.length = 5 := fun x hx => by
  obtain ⟨p, _, rfl⟩ := List.mem_map.1 hx
  rfl
theorem Own.bkOf {W w : World} {L : List Ent} {b : Nat} {v : Value} {pm bm n k : Nat} {l : List Pst} {f g : Lit → Option Value} (h : Own W w L) (h1 : box b (.cells [v, .map (some pm), .map (some bm)].toArray 46) ∈ L) (h2 : row 30 5 v (l.map pstC) ∈ L)
    (h3 : mapE Try.prog 9 pm n f ∈ L) (h4 : mapE Try.prog 55 bm k g ∈ L) (hn : n ≤ l.length) (hf : idOk l f) (hk : k ≤ 4 * l.length) (hg : BalOk l g) : BkAt w b v pm bm l :=
  ⟨h.has _ h1, h.has _ h2, ⟨n, f, h.has _ h3, hn, hf⟩, ⟨k, g, h.has _ h4, hk, hg⟩⟩
theorem run_pst_eql (p q : Pst) (w : World) : (binOp .eql 30 (.agg #[.string p.id, .int .i64 p.o, .int .i64 p.d, .int .i64 p.c, .int .i64 p.a]) (.agg #[.string q.id, .int .i64 q.o, .int .i64 q.d, .int .i64 q.c, .int .i64 q.a])).run Try.prog w = .ok (.bool (decide (p = q))) w := by
  obtain ⟨s, a, b, c, d⟩ := p
  obtain ⟨s', a', b', c', d'⟩ := q
  go_simp
  have hs : s.toList = s'.toList ↔ s = s' := by
    rw [ByteArray.toList_eq, ByteArray.toList_eq]
    obtain ⟨⟨x⟩⟩ := s
    obtain ⟨⟨y⟩⟩ := s'
    simp
  simp only [hs]
  (repeat' split) <;> simp_all

theorem run_pst_neq (p q : Pst) (w : World) : (binOp .neq 30 (.agg #[.string p.id, .int .i64 p.o, .int .i64 p.d, .int .i64 p.c, .int .i64 p.a]) (.agg #[.string q.id, .int .i64 q.o, .int .i64 q.d, .int .i64 q.c, .int .i64 q.a])).run Try.prog w = .ok (.bool (!decide (p = q))) w := by
  obtain ⟨s, a, b, c, d⟩ := p
  obtain ⟨s', a', b', c', d'⟩ := q
  go_simp
  have hs : s.toList = s'.toList ↔ s = s' := by
    rw [ByteArray.toList_eq, ByteArray.toList_eq]
    obtain ⟨⟨x⟩⟩ := s
    obtain ⟨⟨y⟩⟩ := s'
    simp
  simp only [hs]
  (repeat' split) <;> simp_all

set_option maxHeartbeats 16000000 in
set_option maxRecDepth 100000 in
theorem bkPost_own {W w : World} {M : List Ent} {b : Nat} {v : Value} {pm bm : Nat} {l : List Pst} (p : Pst) (HO : Own W w (bkPs b v pm bm l ++ M)) (hB : Bk l) (hp : WfP p) (hlen : l.length ≤ 100000) :
    Calls Try.prog 11 #[.pointer (some ⟨b, 0, none⟩), pstV p] w fun e w' => e = .returned (.int .i64 (postE l p)) ∧ ∃ v', Own W w' (bkPs b v' pm bm (postL l p) ++ M) := by
  replace HO : Own W w (box b (.cells [v, .map (some pm), .map (some bm)].toArray 46) :: row 30 5 v (l.map pstC) :: idE pm l :: balE bm l :: M) := HO
  obtain ⟨n1, f, hn1, hf, HO1⟩ := Own.idOpen HO (fun n f => .tail _ _ _ (.tail _ _ _ (.head _)))
  obtain ⟨n2, g, hn2, hg, HO2⟩ := Own.balOpen HO1 (fun n f => .tail _ _ _ (.tail _ _ _ (.tail _ _ _ (.head _))))
  have HC := Lib.hid (fun (w : World) (h : Own W w (box b (.cells [v, .map (some pm), .map (some bm)].toArray 46) :: row 30 5 v (l.map pstC) :: mapE Try.prog 9 pm n1 f :: mapE Try.prog 55 bm n2 g :: M)) => (⟨v, Own.balClose (Own.idClose h (.tail _ _ _ (.tail _ _ _ (.head _))) hn1 hf) (.tail _ _ _ (.tail _ _ _ (.tail _ _ _ (.head _)))) hn2 hg⟩ : ∃ v', Own W w (bkPs b v' pm bm l ++ M)))
  clear HO HO1
  have HO := HO2
  clear HO2
  have MY := fun w => mayB_any p w
  have MV := fun w (h : BkAt w b v pm bm l) => bkMoves_any h p hp hB.bal_in
  have hq := hf p.id hp.s
  have hkey := WideMaps.keyOf_string_mk (P := Try.prog) Try.underlying9 hp.s
  have hlt5 : n2 + 4 < maxLen := by unfold maxLen; omega
  have hlt1 : n1 < maxLen := by unfold maxLen; omega
  have hlen1 : (l.map pstC).length + 1 ≤ 1000000 := by rw [List.length_map]; omega
  have hidn := Lib.hid (fun h => idOk_snoc (p := p) hf h)
  have hbaln := Lib.hid (fun h => BalOk_snoc hg hp h)
  have hEq := fun q w => run_pst_eql q p w
  cases hm : mayPst p
  · have e1 : postE l p = 2 := by simp [postE, hm]
    have e2 : postL l p = l := by simp [postL, hm]
    rw [e1, e2]
    rw [hm] at MY
    clear hidn hbaln hEq e1 e2 hm MV hB hp
    obtain ⟨id, o, d, c, a⟩ := p
    simp only [pstV, pstC] at *
    go_enter Try.func11, Try.ntmps11
    go_wp2_with (first | (first | go_big_skip | ((with_reducible apply wpList_loadAll HO); exact rfl; exact rfl; (repeat (with_reducible (first | exact At.head _ | apply At.tail))); infer_instance; exact rfl; exact rfl; (simp only [Act.put, List.setIfInBounds_toArray, List.set_cons_succ, List.set_cons_zero])) | ((with_reducible apply wpList_loadOne HO); exact rfl; exact rfl; (repeat (with_reducible (first | exact At.head _ | apply At.tail))); exact rfl; infer_instance; exact rfl; (simp only [Act.put, List.setIfInBounds_toArray, List.set_cons_succ, List.set_cons_zero]))) | (first | ((with_reducible apply wpList_boxAgg _ HO rfl); exact rfl; exact rfl; exact rfl; clear HO; intro b3 w HO; (simp only [Act.put, List.setIfInBounds_toArray, List.set_cons_succ, List.set_cons_zero])) | ((with_reducible apply wpList_allocAgg _ HO rfl); exact rfl; infer_instance; exact rfl; clear HO; intro b3 w HO; (simp only [Act.put, List.setIfInBounds_toArray, List.set_cons_succ, List.set_cons_zero]))) | (go_at_call 21; go_must ((with_reducible refine (bkNone_any (HO.boxAt (by repeat (first | exact List.mem_cons_self | apply List.mem_cons_of_mem)))).mono ?_); rintro e w ⟨rfl, hb⟩; replace HO := HO.call hb; clear hb)) | (go_at_call 22; go_must ((with_reducible refine (MY _).mono ?_); rintro e w ⟨rfl, hb⟩; replace HO := HO.call hb; clear hb)))
    go_ret
    exact ⟨rfl, HC.out _ HO.tail⟩
  rw [hm] at MY
  cases hfp : findP l p.id with
  | some q =>
    have e1 : postE l p = if q = p then 0 else 91 := by simp [postE, hm, hfp]
    have e2 : postL l p = l := by simp [postL, hfp]
    rw [e2]
    have HE := Lib.hid e1
    generalize postE l p = ex at *
    rw [hfp] at hq
    have hEq := hEq q
    clear hidn hbaln e1 e2 hm MV hB hp hfp
    generalize hx : decide (q = p) = x at *
    have HX := Lib.hid hx
    clear hx
    obtain ⟨id, o, d, c, a⟩ := p
    obtain ⟨qi, qo, qd, qc, qa⟩ := q
    simp only [pstV, pstC, Option.map_some] at *
    go_enter Try.func11, Try.ntmps11
    go_upto_region 5 with (first | (first | go_big_skip | ((with_reducible apply wpList_loadAll HO); exact rfl; exact rfl; (repeat (with_reducible (first | exact At.head _ | apply At.tail))); infer_instance; exact rfl; exact rfl; (simp only [Act.put, List.setIfInBounds_toArray, List.set_cons_succ, List.set_cons_zero])) | ((with_reducible apply wpList_loadOne HO); exact rfl; exact rfl; (repeat (with_reducible (first | exact At.head _ | apply At.tail))); exact rfl; infer_instance; exact rfl; (simp only [Act.put, List.setIfInBounds_toArray, List.set_cons_succ, List.set_cons_zero]))) | (first | ((with_reducible apply wpList_boxAgg _ HO rfl); exact rfl; exact rfl; exact rfl; clear HO; intro b3 w HO; (simp only [Act.put, List.setIfInBounds_toArray, List.set_cons_succ, List.set_cons_zero])) | ((with_reducible apply wpList_allocAgg _ HO rfl); exact rfl; infer_instance; exact rfl; clear HO; intro b3 w HO; (simp only [Act.put, List.setIfInBounds_toArray, List.set_cons_succ, List.set_cons_zero]))) | (go_at_call 21; go_must ((with_reducible refine (bkNone_any (HO.boxAt (by repeat (first | exact List.mem_cons_self | apply List.mem_cons_of_mem)))).mono ?_); rintro e w ⟨rfl, hb⟩; replace HO := HO.call hb; clear hb)) | (go_at_call 22; go_must ((with_reducible refine (MY _).mono ?_); rintro e w ⟨rfl, hb⟩; replace HO := HO.call hb; clear hb)))
    refine region_sched2 ([box b3 (.cells #[.string id, .int .i64 o, .int .i64 d, .int .i64 c, .int .i64 a] 30), box b (.cells #[v, .map (some pm), .map (some bm)] 46), mapE Try.prog 9 pm n1 f]) [(0, true), (1, true), (2, true), (3, true), (4, true), (5, true), (6, true), (7, true), (8, true), (9, true), (10, false), (11, false), (12, true)] HO (by with_reducible (repeat (first | exact List.nil_sublist _ | apply List.Sublist.cons_cons | apply List.Sublist.cons))) (by kernel_rfl) (by kernel_rfl) ?_
    clear HO
    intro w HO
    repeat (first | ((with_reducible apply wpSched_loadOne); exact rfl; exact rfl; exact rfl; (repeat (with_reducible (first | exact At.head _ | apply At.tail))); exact rfl; infer_instance; exact rfl; (simp only [Act.put, List.setIfInBounds_toArray, List.set_cons_succ, List.set_cons_zero])) | ((with_reducible apply wpSched_mapLook1 (kt := 9) (et := 30)); exact rfl; exact rfl; exact rfl; exact rfl; (repeat (with_reducible (first | exact At.head _ | apply At.tail))); exact strKeyed; exact Try.underlying43; infer_instance; exact hkey; (focus (first | (rw [hq]; done) | (rw [hq]; exact rfl))); exact rfl; (simp only [Act.put, List.setIfInBounds_toArray, List.set_cons_succ, List.set_cons_zero])) | ((with_reducible apply wpSched_pure); exact rfl; exact rfl; (intro w'; go_simp; try with_reducible rfl); (simp only [Act.put, List.setIfInBounds_toArray, List.set_cons_succ, List.set_cons_zero])))
    ((with_reducible apply wpSched_loud); exact rfl; (first | ((with_reducible apply wpList_boxAgg _ HO rfl); exact rfl; exact rfl; exact rfl; clear HO; intro b5 w HO; (simp only [Act.put, List.setIfInBounds_toArray, List.set_cons_succ, List.set_cons_zero])) | ((with_reducible apply wpList_allocAgg _ HO rfl); exact rfl; infer_instance; exact rfl; clear HO; intro b5 w HO; (simp only [Act.put, List.setIfInBounds_toArray, List.set_cons_succ, List.set_cons_zero]))))
    refine wpList_nil (thenQ_keep (HO.held (by with_reducible (repeat (first | exact List.nil_sublist _ | apply List.Sublist.cons_cons | apply List.Sublist.cons)))) ?_)
    ((with_reducible apply wpSched_loud); exact rfl; ((with_reducible apply wpList_storeAll HO); exact rfl; exact rfl; exact rfl; (repeat (with_reducible (first | exact At.head _ | apply At.tail))); infer_instance; exact rfl; exact rfl; exact rfl; exact rfl; clear HO; intro w HO; (simp only [Act.put])))
    refine wpList_nil (thenQ_keep (HO.held (by with_reducible (repeat (first | exact List.nil_sublist _ | apply List.Sublist.cons_cons | apply List.Sublist.cons)))) ?_)
    ((with_reducible apply wpSched_pure); exact rfl; exact rfl; (intro w'; go_simp; try with_reducible rfl); (simp only [Act.put, List.setIfInBounds_toArray, List.set_cons_succ, List.set_cons_zero]))
    refine wpSched_end ?_
    cases x
    · obtain rfl : ex = 91 := HE.out.trans (if_neg (of_decide_eq_false HX.out))
      go_wp2_with (first | (first | go_big_skip | ((with_reducible apply wpList_loadAll HO); exact rfl; exact rfl; (repeat (with_reducible (first | exact At.head _ | apply At.tail))); infer_instance; exact rfl; exact rfl; (simp only [Act.put, List.setIfInBounds_toArray, List.set_cons_succ, List.set_cons_zero])) | ((with_reducible apply wpList_loadOne HO); exact rfl; exact rfl; (repeat (with_reducible (first | exact At.head _ | apply At.tail))); exact rfl; infer_instance; exact rfl; (simp only [Act.put, List.setIfInBounds_toArray, List.set_cons_succ, List.set_cons_zero]))))
      go_ret
      exact ⟨rfl, HC.out _ HO.tail.tail⟩
    · obtain rfl : ex = 0 := HE.out.trans (if_pos (of_decide_eq_true HX.out))
      go_wp2_with (first | (first | go_big_skip | ((with_reducible apply wpList_loadAll HO); exact rfl; exact rfl; (repeat (with_reducible (first | exact At.head _ | apply At.tail))); infer_instance; exact rfl; exact rfl; (simp only [Act.put, List.setIfInBounds_toArray, List.set_cons_succ, List.set_cons_zero])) | ((with_reducible apply wpList_loadOne HO); exact rfl; exact rfl; (repeat (with_reducible (first | exact At.head _ | apply At.tail))); exact rfl; infer_instance; exact rfl; (simp only [Act.put, List.setIfInBounds_toArray, List.set_cons_succ, List.set_cons_zero]))))
      go_ret
      exact ⟨rfl, HC.out _ HO.tail.tail⟩
  | none =>
    have HN := Lib.hid hfp
    rw [hfp] at hq
    clear hEq
    cases hfit : fitsPst l p
    · have e1 : postE l p = 90 := by simp [postE, hm, hfp, hfit]
      have e2 : postL l p = l := by simp [postL, hfit]
      rw [e1, e2]
      simp only [MovesPost, hfit, Bool.false_eq_true, if_false] at MV
      clear hidn hbaln e1 e2 hm hB hp hfp hfit
      obtain ⟨id, o, d, c, a⟩ := p
      simp only [pstV, pstC, Option.map_none] at *
      go_enter Try.func11, Try.ntmps11
      go_upto_region 5 with (first | (first | go_big_skip | ((with_reducible apply wpList_loadAll HO); exact rfl; exact rfl; (repeat (with_reducible (first | exact At.head _ | apply At.tail))); infer_instance; exact rfl; exact rfl; (simp only [Act.put, List.setIfInBounds_toArray, List.set_cons_succ, List.set_cons_zero])) | ((with_reducible apply wpList_loadOne HO); exact rfl; exact rfl; (repeat (with_reducible (first | exact At.head _ | apply At.tail))); exact rfl; infer_instance; exact rfl; (simp only [Act.put, List.setIfInBounds_toArray, List.set_cons_succ, List.set_cons_zero]))) | (first | ((with_reducible apply wpList_boxAgg _ HO rfl); exact rfl; exact rfl; exact rfl; clear HO; intro b3 w HO; (simp only [Act.put, List.setIfInBounds_toArray, List.set_cons_succ, List.set_cons_zero])) | ((with_reducible apply wpList_allocAgg _ HO rfl); exact rfl; infer_instance; exact rfl; clear HO; intro b3 w HO; (simp only [Act.put, List.setIfInBounds_toArray, List.set_cons_succ, List.set_cons_zero]))) | (go_at_call 21; go_must ((with_reducible refine (bkNone_any (HO.boxAt (by repeat (first | exact List.mem_cons_self | apply List.mem_cons_of_mem)))).mono ?_); rintro e w ⟨rfl, hb⟩; replace HO := HO.call hb; clear hb)) | (go_at_call 22; go_must ((with_reducible refine (MY _).mono ?_); rintro e w ⟨rfl, hb⟩; replace HO := HO.call hb; clear hb)))
      refine region_sched2 ([box b3 (.cells #[.string id, .int .i64 o, .int .i64 d, .int .i64 c, .int .i64 a] 30), box b (.cells #[v, .map (some pm), .map (some bm)] 46), mapE Try.prog 9 pm n1 f]) [(0, true), (1, true), (2, true), (3, true), (4, true), (5, true), (6, true), (7, true), (8, true), (9, true), (10, false), (11, false), (12, true)] HO (by with_reducible (repeat (first | exact List.nil_sublist _ | apply List.Sublist.cons_cons | apply List.Sublist.cons))) (by kernel_rfl) (by kernel_rfl) ?_
      clear HO
      intro w HO
      repeat (first | ((with_reducible apply wpSched_loadOne); exact rfl; exact rfl; exact rfl; (repeat (with_reducible (first | exact At.head _ | apply At.tail))); exact rfl; infer_instance; exact rfl; (simp only [Act.put, List.setIfInBounds_toArray, List.set_cons_succ, List.set_cons_zero])) | ((with_reducible apply wpSched_mapLook1 (kt := 9) (et := 30)); exact rfl; exact rfl; exact rfl; exact rfl; (repeat (with_reducible (first | exact At.head _ | apply At.tail))); exact strKeyed; exact Try.underlying43; infer_instance; exact hkey; (focus (first | (rw [hq]; done) | (rw [hq]; exact rfl))); exact rfl; (simp only [Act.put, List.setIfInBounds_toArray, List.set_cons_succ, List.set_cons_zero])) | ((with_reducible apply wpSched_pure); exact rfl; exact rfl; (intro w'; go_simp; try with_reducible rfl); (simp only [Act.put, List.setIfInBounds_toArray, List.set_cons_succ, List.set_cons_zero])))
      ((with_reducible apply wpSched_loud); exact rfl; (first | ((with_reducible apply wpList_boxAgg _ HO rfl); exact rfl; exact rfl; exact rfl; clear HO; intro b5 w HO; (simp only [Act.put, List.setIfInBounds_toArray, List.set_cons_succ, List.set_cons_zero])) | ((with_reducible apply wpList_allocAgg _ HO rfl); exact rfl; infer_instance; exact rfl; clear HO; intro b5 w HO; (simp only [Act.put, List.setIfInBounds_toArray, List.set_cons_succ, List.set_cons_zero]))))
      refine wpList_nil (thenQ_keep (HO.held (by with_reducible (repeat (first | exact List.nil_sublist _ | apply List.Sublist.cons_cons | apply List.Sublist.cons)))) ?_)
      ((with_reducible apply wpSched_loud); exact rfl; ((with_reducible apply wpList_storeAll HO); exact rfl; exact rfl; exact rfl; (repeat (with_reducible (first | exact At.head _ | apply At.tail))); infer_instance; exact rfl; exact rfl; exact rfl; exact rfl; clear HO; intro w HO; (simp only [Act.put])))
      refine wpList_nil (thenQ_keep (HO.held (by with_reducible (repeat (first | exact List.nil_sublist _ | apply List.Sublist.cons_cons | apply List.Sublist.cons)))) ?_)
      ((with_reducible apply wpSched_pure); exact rfl; exact rfl; (intro w'; go_simp; try with_reducible rfl); (simp only [Act.put, List.setIfInBounds_toArray, List.set_cons_succ, List.set_cons_zero]))
      refine wpSched_end ?_
      go_wp2_with (first | (first | go_big_skip | ((with_reducible apply wpList_loadAll HO); exact rfl; exact rfl; (repeat (with_reducible (first | exact At.head _ | apply At.tail))); infer_instance; exact rfl; exact rfl; (simp only [Act.put, List.setIfInBounds_toArray, List.set_cons_succ, List.set_cons_zero])) | ((with_reducible apply wpList_loadOne HO); exact rfl; exact rfl; (repeat (with_reducible (first | exact At.head _ | apply At.tail))); exact rfl; infer_instance; exact rfl; (simp only [Act.put, List.setIfInBounds_toArray, List.set_cons_succ, List.set_cons_zero]))) | (go_at_call 23; go_must ((with_reducible refine (MV _ (Own.bkOf HO (by repeat (first | exact List.mem_cons_self | apply List.mem_cons_of_mem)) (by repeat (first | exact List.mem_cons_self | apply List.mem_cons_of_mem)) (by repeat (first | exact List.mem_cons_self | apply List.mem_cons_of_mem)) (by repeat (first | exact List.mem_cons_self | apply List.mem_cons_of_mem)) hn1 hf hn2 hg)).mono ?_); rintro e w ⟨rfl, hb⟩; replace HO := HO.call hb; clear hb)))
      go_ret
      exact ⟨rfl, HC.out _ HO.tail.tail⟩
    · have e1 : postE l p = 0 := by simp [postE, hm, hfp, hfit]
      have e2 : postL l p = l ++ [p] := by simp [postL, hm, hfp, hfit]
      rw [e1, e2]
      simp only [MovesPost, hfit, if_true] at MV
      replace hidn := Lib.hid (hidn.out hfp)
      replace hbaln := Lib.hid (hbaln.out hm)
      have hmi := movesF_int l p
      have hpc : (l ++ [p]).map pstC = l.map pstC ++ [pstC p] := by simp
      generalize movesF l p = mv at *
      clear e1 e2 hm hB hp hfp hfit
      generalize hlp : l ++ [p] = lp at *
      replace hpc := Lib.hid hpc
      replace hlp := Lib.hid hlp
      obtain ⟨id, o, d, c, a⟩ := p
      simp only [pstV, pstC, Option.map_none] at *
      go_enter Try.func11, Try.ntmps11
      go_upto_region 5 with (first | (first | go_big_skip | ((with_reducible apply wpList_loadAll HO); exact rfl; exact rfl; (repeat (with_reducible (first | exact At.head _ | apply At.tail))); infer_instance; exact rfl; exact rfl; (simp only [Act.put, List.setIfInBounds_toArray, List.set_cons_succ, List.set_cons_zero])) | ((with_reducible apply wpList_loadOne HO); exact rfl; exact rfl; (repeat (with_reducible (first | exact At.head _ | apply At.tail))); exact rfl; infer_instance; exact rfl; (simp only [Act.put, List.setIfInBounds_toArray, List.set_cons_succ, List.set_cons_zero]))) | (first | ((with_reducible apply wpList_boxAgg _ HO rfl); exact rfl; exact rfl; exact rfl; clear HO; intro b3 w HO; (simp only [Act.put, List.setIfInBounds_toArray, List.set_cons_succ, List.set_cons_zero])) | ((with_reducible apply wpList_allocAgg _ HO rfl); exact rfl; infer_instance; exact rfl; clear HO; intro b3 w HO; (simp only [Act.put, List.setIfInBounds_toArray, List.set_cons_succ, List.set_cons_zero]))) | (go_at_call 21; go_must ((with_reducible refine (bkNone_any (HO.boxAt (by repeat (first | exact List.mem_cons_self | apply List.mem_cons_of_mem)))).mono ?_); rintro e w ⟨rfl, hb⟩; replace HO := HO.call hb; clear hb)) | (go_at_call 22; go_must ((with_reducible refine (MY _).mono ?_); rintro e w ⟨rfl, hb⟩; replace HO := HO.call hb; clear hb)))
      refine region_sched2 ([box b3 (.cells #[.string id, .int .i64 o, .int .i64 d, .int .i64 c, .int .i64 a] 30), box b (.cells #[v, .map (some pm), .map (some bm)] 46), mapE Try.prog 9 pm n1 f]) [(0, true), (1, true), (2, true), (3, true), (4, true), (5, true), (6, true), (7, true), (8, true), (9, true), (10, false), (11, false), (12, true)] HO (by with_reducible (repeat (first | exact List.nil_sublist _ | apply List.Sublist.cons_cons | apply List.Sublist.cons))) (by kernel_rfl) (by kernel_rfl) ?_
      clear HO
      intro w HO
      repeat (first | ((with_reducible apply wpSched_loadOne); exact rfl; exact rfl; exact rfl; (repeat (with_reducible (first | exact At.head _ | apply At.tail))); exact rfl; infer_instance; exact rfl; (simp only [Act.put, List.setIfInBounds_toArray, List.set_cons_succ, List.set_cons_zero])) | ((with_reducible apply wpSched_mapLook1 (kt := 9) (et := 30)); exact rfl; exact rfl; exact rfl; exact rfl; (repeat (with_reducible (first | exact At.head _ | apply At.tail))); exact strKeyed; exact Try.underlying43; infer_instance; exact hkey; (focus (first | (rw [hq]; done) | (rw [hq]; exact rfl))); exact rfl; (simp only [Act.put, List.setIfInBounds_toArray, List.set_cons_succ, List.set_cons_zero])) | ((with_reducible apply wpSched_pure); exact rfl; exact rfl; (intro w'; go_simp; try with_reducible rfl); (simp only [Act.put, List.setIfInBounds_toArray, List.set_cons_succ, List.set_cons_zero])))
      ((with_reducible apply wpSched_loud); exact rfl; (first | ((with_reducible apply wpList_boxAgg _ HO rfl); exact rfl; exact rfl; exact rfl; clear HO; intro b5 w HO; (simp only [Act.put, List.setIfInBounds_toArray, List.set_cons_succ, List.set_cons_zero])) | ((with_reducible apply wpList_allocAgg _ HO rfl); exact rfl; infer_instance; exact rfl; clear HO; intro b5 w HO; (simp only [Act.put, List.setIfInBounds_toArray, List.set_cons_succ, List.set_cons_zero]))))
      refine wpList_nil (thenQ_keep (HO.held (by with_reducible (repeat (first | exact List.nil_sublist _ | apply List.Sublist.cons_cons | apply List.Sublist.cons)))) ?_)
      ((with_reducible apply wpSched_loud); exact rfl; ((with_reducible apply wpList_storeAll HO); exact rfl; exact rfl; exact rfl; (repeat (with_reducible (first | exact At.head _ | apply At.tail))); infer_instance; exact rfl; exact rfl; exact rfl; exact rfl; clear HO; intro w HO; (simp only [Act.put])))
      refine wpList_nil (thenQ_keep (HO.held (by with_reducible (repeat (first | exact List.nil_sublist _ | apply List.Sublist.cons_cons | apply List.Sublist.cons)))) ?_)
      ((with_reducible apply wpSched_pure); exact rfl; exact rfl; (intro w'; go_simp; try with_reducible rfl); (simp only [Act.put, List.setIfInBounds_toArray, List.set_cons_succ, List.set_cons_zero]))
      refine wpSched_end ?_
      go_upto_region 14 with (first | (first | go_big_skip | ((with_reducible apply wpList_loadAll HO); exact rfl; exact rfl; (repeat (with_reducible (first | exact At.head _ | apply At.tail))); infer_instance; exact rfl; exact rfl; (simp only [Act.put, List.setIfInBounds_toArray, List.set_cons_succ, List.set_cons_zero])) | ((with_reducible apply wpList_loadOne HO); exact rfl; exact rfl; (repeat (with_reducible (first | exact At.head _ | apply At.tail))); exact rfl; infer_instance; exact rfl; (simp only [Act.put, List.setIfInBounds_toArray, List.set_cons_succ, List.set_cons_zero]))) | (go_at_call 23; go_must ((with_reducible refine (MV _ (Own.bkOf HO (by repeat (first | exact List.mem_cons_self | apply List.mem_cons_of_mem)) (by repeat (first | exact List.mem_cons_self | apply List.mem_cons_of_mem)) (by repeat (first | exact List.mem_cons_self | apply List.mem_cons_of_mem)) (by repeat (first | exact List.mem_cons_self | apply List.mem_cons_of_mem)) hn1 hf hn2 hg)).mono ?_); rintro e w ⟨om, rfl, HO1⟩; replace HO := HO.lift HO1; clear HO1; simp only [List.cons_append, List.nil_append] at HO; replace HO := HO.perm ((List.perm_middle (l₁ := [_, _, _, _, _])).cons _); simp only [List.cons_append, List.nil_append] at HO)) | (go_at_call 24; go_must ((with_reducible refine (mapsCopy_any HO (by omega) (fun k _ v h => hmi k v h)).mono ?_); clear HO; rintro e w ⟨rfl, HO⟩)))
      refine region_sched2 ([box b3 (.cells #[.string id, .int .i64 o, .int .i64 d, .int .i64 c, .int .i64 a] 30), box b (.cells #[v, .map (some pm), .map (some bm)] 46)]) [(0, true), (1, true), (2, true), (3, true), (4, true), (5, true), (6, true), (7, false)] HO (by with_reducible (repeat (first | exact List.nil_sublist _ | apply List.Sublist.cons_cons | apply List.Sublist.cons))) (by kernel_rfl) (by kernel_rfl) ?_
      clear HO
      intro w HO
      repeat (first | ((with_reducible apply wpSched_loadOne); exact rfl; exact rfl; exact rfl; (repeat (with_reducible (first | exact At.head _ | apply At.tail))); exact rfl; infer_instance; exact rfl; (simp only [Act.put, List.setIfInBounds_toArray, List.set_cons_succ, List.set_cons_zero])) | ((with_reducible apply wpSched_loadAll); exact rfl; exact rfl; exact rfl; (repeat (with_reducible (first | exact At.head _ | apply At.tail))); infer_instance; exact rfl; exact rfl; (simp only [Act.put, List.setIfInBounds_toArray, List.set_cons_succ, List.set_cons_zero])) | ((with_reducible apply wpSched_pure); exact rfl; exact rfl; (intro w'; go_simp; try with_reducible rfl); (simp only [Act.put, List.setIfInBounds_toArray, List.set_cons_succ, List.set_cons_zero])))
      ((with_reducible apply wpSched_loud); exact rfl; ((with_reducible apply wpList_mapPut HO (kt := 9) (et := 30)); exact rfl; exact rfl; exact rfl; (first | (simp [Act.eval]; rfl) | exact rfl); (repeat (with_reducible (first | exact At.head _ | apply At.tail))); exact strKeyed; exact Try.underlying43; exact hlt1; exact hkey; exact rfl; clear HO; intro w HO; (simp only [Act.put])))
      refine wpList_nil (thenQ_keep (HO.held (by with_reducible (repeat (first | exact List.nil_sublist _ | apply List.Sublist.cons_cons | apply List.Sublist.cons)))) ?_)
      refine wpSched_end ?_
      go_upto_region 15 with fail
      refine region_sched2 ([box b3 (.cells #[.string id, .int .i64 o, .int .i64 d, .int .i64 c, .int .i64 a] 30), box b (.cells #[v, .map (some pm), .map (some bm)] 46)]) [(0, true), (1, true), (2, true), (3, true), (4, true), (5, true), (6, false), (7, false), (8, true), (9, true), (10, false)] HO (by with_reducible (repeat (first | exact List.nil_sublist _ | apply List.Sublist.cons_cons | apply List.Sublist.cons))) (by kernel_rfl) (by kernel_rfl) ?_
      clear HO
      intro w HO
      repeat (first | ((with_reducible apply wpSched_loadOne); exact rfl; exact rfl; exact rfl; (repeat (with_reducible (first | exact At.head _ | apply At.tail))); exact rfl; infer_instance; exact rfl; (simp only [Act.put, List.setIfInBounds_toArray, List.set_cons_succ, List.set_cons_zero])) | ((with_reducible apply wpSched_loadAll); exact rfl; exact rfl; exact rfl; (repeat (with_reducible (first | exact At.head _ | apply At.tail))); infer_instance; exact rfl; exact rfl; (simp only [Act.put, List.setIfInBounds_toArray, List.set_cons_succ, List.set_cons_zero])) | ((with_reducible apply wpSched_pure); exact rfl; exact rfl; (intro w'; go_simp; try with_reducible rfl); (simp only [Act.put, List.setIfInBounds_toArray, List.set_cons_succ, List.set_cons_zero])))
      ((with_reducible apply wpSched_loud); exact rfl; (first | ((with_reducible apply wpList_lit1 HO); exact rfl; infer_instance; infer_instance; exact rfl; exact rfl; exact (by decide); exact rfl; clear HO; intro bl w HO; (simp only [Act.put, List.setIfInBounds_toArray, List.set_cons_succ, List.set_cons_zero])) | ((with_reducible apply wpList_lit1c HO); exact rfl; infer_instance; infer_instance; (first | (simp [Act.eval]; rfl) | exact rfl); exact rfl; exact rfl; clear HO; intro bl w HO; (simp only [Act.put, List.setIfInBounds_toArray, List.set_cons_succ, List.set_cons_zero]))))
      refine wpList_nil (thenQ_keep (HO.held (by with_reducible (repeat (first | exact List.nil_sublist _ | apply List.Sublist.cons_cons | apply List.Sublist.cons)))) ?_)
      ((with_reducible apply wpSched_loud); exact rfl; ((with_reducible apply wpList_push1 HO); exact rfl; infer_instance; infer_instance; (first | (simp [Act.eval]; rfl) | exact rfl); exact rfl; intro _; (repeat (with_reducible (first | exact At.head _ | apply At.tail))); exact rfl; exact rfl; (first | omega | (simp; omega)); decide; exact rfl; clear HO; intro v2 w HO hv2; (simp only [Act.put, List.setIfInBounds_toArray, List.set_cons_succ, List.set_cons_zero])))
      obtain ⟨p9, n9, c9, rfl⟩ := hv2
      refine wpList_nil (thenQ_free (by kernel_rfl) ?_)
      repeat ((with_reducible apply wpSched_pure); exact rfl; exact rfl; (intro w'; go_simp; try with_reducible rfl); (simp only [Act.put, List.setIfInBounds_toArray, List.set_cons_succ, List.set_cons_zero]))
      ((with_reducible apply wpSched_loud); exact rfl; ((with_reducible apply wpList_storeOne HO); exact rfl; exact rfl; (first | (simp [Act.eval]; rfl) | exact rfl); exact rfl; (repeat (with_reducible (first | exact At.head _ | apply At.tail))); infer_instance; exact (by simp); (simp only [List.set_cons_succ, List.set_cons_zero]; rfl); exact rfl; clear HO; intro w HO; (simp only [Act.put])))
      refine wpList_nil (thenQ_free (by kernel_rfl) ?_)
      refine wpSched_end ?_
      go_wp2_with fail
      go_ret
      refine ⟨rfl, .slice p9 n9 c9, ?_⟩
      have h1 := (HO.sub (.cons _ (.cons_cons _ (.cons _ (.cons _ (List.Sublist.refl _)))))).perm (List.perm_middle (l₁ := [_, _, _])).symm
      simp only [List.cons_append, List.nil_append] at h1
      have hll : lp.length = l.length + 1 := by rw [← hlp.out]; simp
      have h2 := Own.balClose (Own.idClose h1 (.tail _ _ _ (.tail _ _ _ (.head _))) (by rw [hll]; omega) hidn.out) (.tail _ _ _ (.tail _ _ _ (.tail _ _ _ (.head _)))) (by rw [hll]; omega) hbaln.out
      show Own W w (box b _ :: row _ 5 (.slice p9 n9 c9) (lp.map pstC) :: _ :: _ :: M)
      rw [hpc.out]
      exact h2
/-- The same, wherever the books stand among the caller's own memory. -/
theorem bkPost_any {W w : World} {L : List Ent} {L' : Value → List Ent} {b : Nat} {v : Value} {pm bm : Nat} {l : List Pst} (p : Pst) (HO : Own W w L) (hat : ∀ v', At (bkE b v pm bm l) (bkE b v' pm bm (postL l p)) L (L' v')) (hB : Bk l) (hp : WfP p) (hlen : l.length ≤ 100000) :
    Calls Try.prog 11 #[.pointer (some ⟨b, 0, none⟩), pstV p] w fun e w' => e = .returned (.int .i64 (postE l p)) ∧ ∃ v', Own W w' (L' v') := by
  obtain ⟨M, p1, p2⟩ := At.fronts hat v
  refine (bkPost_own p (HO.perm p1).unjoin hB hp hlen).mono fun e w' h => ?_
  obtain ⟨rfl, v', h1⟩ := h
  exact ⟨rfl, v', (Own.join h1).perm (p2 v').symm⟩
end Go.Proofs.Ythiokpjakiidjaa

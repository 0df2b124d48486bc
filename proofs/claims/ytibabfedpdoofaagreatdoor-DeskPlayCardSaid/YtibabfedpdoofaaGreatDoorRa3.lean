/-
  A posting posted, by walking the program's text; conditions: int64 numbers, less than 100000 postings.
  What bits.Var and its kin compute, by walking their text; conditions: numbers below 2^63.
  What bits.Read and its kin compute, by walking their text; conditions: none.
  What the document's functions on bits compute, by walking their text: the same; conditions: none.
  What the functions on names compute, by walking their text; conditions: none.
  What is wrong with an order, by walking both texts; conditions: texts no longer than memory bears.
  What the functions on keys compute, by walking their text; conditions: the table of parties holds what the text lays.
  What the functions on orders compute, by walking their text; conditions: texts no longer than memory bears.
  What the reader of orders does, by walking its text; conditions: it lies in memory, apart from what the calls make.
  The order of some bytes: the plain law of getting and putting, and what Get computes, by walking its text; conditions: texts no longer than memory bears.
  What the reader of rows does, by walking its text; conditions: its two cells lie in memory of the caller's own.
  All numbers that stand one behind the other, by walking the document's text; conditions: none.
  The table of parties, seen from within a drawn region; conditions: none.
  Whether there may be a row of a party, by walking the text; conditions: the table of parties as laid.
  Whether rows may be a party's, by walking both texts; conditions: the rows lie in memory, the table of parties as laid.
  Whether rows may be a party's, by walking the document's text: the same; conditions: the rows lie in memory.
  Whether a statement may be, by walking both texts; conditions: the rows lie in memory, the table of parties as laid.
-/
import Derived.Test.YtibabfedpdoofaaGreatDoorRows
import Derived.Deep.RegionWith
import Derived.Test.YtibabfedpdoofaaGreatDoorRa1
import Derived.Test.YtibabfedpdoofaaGreatDoorRa2
namespace Go.Proofs.YtibabfedpdoofaaGreatDoor
open Go.RowKit Go.Own Go.Maps

theorem findP_snoc (l : List Pst) (p : Pst) (s : ByteArray) : findP (l ++ [p]) s = (findP l s).or (if p.id = s then some p else none) := by
  unfold findP
  rw [List.find?_append]
  congr 1
  simp only [List.find?_cons, List.find?_nil]
  by_cases h : p.id = s <;> simp [h]
theorem idOk_snoc {l : List Pst} {f : Lit → Option Value} {p : Pst} (h : idOk l f) (hn : findP l p.id = none) : idOk (l ++ [p]) (updF f (.string p.id.data.toList) (pstV p)) := by
  intro s hs
  rw [findP_snoc]
  unfold updF
  by_cases e : p.id = s
  · subst e
    rw [if_pos (WideAt.sameKey_self (show WideAt.IsKeyLit (.string _) from trivial)), hn, if_pos rfl]
    rfl
  · have hk : Lit.sameKey (.string s.data.toList) (.string p.id.data.toList) = false := by
      cases hc : Lit.sameKey (.string s.data.toList) (.string p.id.data.toList) with
      | false => rfl
      | true =>
        have h1 := WideAt.sameKey_eq hc
        simp only [Lit.string.injEq] at h1
        exact absurd (by
          obtain ⟨⟨a⟩⟩ := s
          cases p with
          | mk id o d c a2 =>
            obtain ⟨⟨b⟩⟩ := id
            simpa using h1.symm) e
    rw [hk, if_neg e, h s hs]
    simp
set_option maxRecDepth 100000 in
theorem updF_slot {f : Lit → Option Value} {v : Value} {n o n' o' : Int} (h1 : inI n = true) (h2 : inI o = true) (h1' : inI n' = true) (h2' : inI o' = true) : updF f (slotLit n' o') v (slotLit n o) = if n = n' ∧ o = o' then some v else f (slotLit n o) := by
  unfold updF
  by_cases e : n = n' ∧ o = o'
  · obtain ⟨rfl, rfl⟩ := e
    rw [if_pos (WideAt.sameKey_self (slotKeyed.key (slotOf_lit h1 h2))), if_pos ⟨rfl, rfl⟩]
  · have hk : (slotLit n o).sameKey (slotLit n' o') = false := by
      cases hc : (slotLit n o).sameKey (slotLit n' o') with
      | false => rfl
      | true => exact absurd (slotLit_inj h1 h2 h1' h2' (WideAt.sameKey_eq hc)) e
    rw [hk, if_neg e]
    simp
set_option maxRecDepth 100000 in
theorem BalOk_snoc {l : List Pst} {g : Lit → Option Value} {p : Pst} (h : BalOk l g) (hw : WfP p) (hm : mayPst p = true) : BalOk (l ++ [p]) (mergeF g (movesF l p)) := by
  intro n o hn ho
  have hm := mayPst_iff.1 hm
  have hg := h n o hn ho
  have z0 : inI 0 = true := rfl
  rw [bal_snoc]
  unfold mergeF movesF
  rw [updF_slot hn ho hw.c hw.o, updF_slot hn ho hw.d hw.o, updF_slot hn ho hw.c z0, updF_slot hn ho hw.d z0]
  unfold delta
  by_cases c1 : n = p.c ∧ o = p.o
  · obtain ⟨rfl, rfl⟩ := c1
    rw [if_pos ⟨rfl, rfl⟩]
    simp only [Option.getD_some, Value.int.injEq, true_and]
    rw [if_neg (by omega), if_neg (by omega), if_pos trivial]; omega
  rw [if_neg c1]
  by_cases c2 : n = p.d ∧ o = p.o
  · obtain ⟨rfl, rfl⟩ := c2
    rw [if_pos ⟨rfl, rfl⟩]
    simp only [Option.getD_some, Value.int.injEq, true_and]
    rw [if_neg (by omega), if_pos trivial]
  rw [if_neg c2]
  by_cases c3 : n = p.c ∧ o = 0
  · obtain ⟨rfl, rfl⟩ := c3
    rw [if_pos ⟨rfl, rfl⟩]
    simp only [Option.getD_some, Value.int.injEq, true_and]
    rw [if_neg (by omega), if_neg (by omega), if_pos trivial]; omega
  rw [if_neg c3]
  by_cases c4 : n = p.d ∧ o = 0
  · obtain ⟨rfl, rfl⟩ := c4
    rw [if_pos ⟨rfl, rfl⟩]
    simp only [Option.getD_some, Value.int.injEq, true_and]
    rw [if_neg (by omega), if_pos trivial]
  rw [if_neg c4]
  have e : (if o ≠ 0 ∧ p.o ≠ o then (0 : Int) else if p.d = n then p.a else if p.c = n then -p.a else 0) = 0 := by
    split
    · rfl
    · rename_i hc
      rw [if_neg (by omega), if_neg (by omega)]
  rw [e, Int.add_zero]
  exact hg
theorem movesF_int (l : List Pst) (p : Pst) : ∀ k v, movesF l p k = some v → ∃ x, v = .int .i64 x := by
  intro k v h
  unfold movesF updF at h
  repeat' split at h
  all_goals first | (cases h; exact ⟨_, rfl⟩) | cases h
theorem pstC_len (l : List Pst) : ∀ x ∈ l.map pstC, x.length = 5 := fun x hx => by
  obtain ⟨p, _, rfl⟩ := List.mem_map.1 hx
  rfl
theorem Own.bkOf {W w : World} {L : List Ent} {b : Nat} {v : Value} {pm bm n k : Nat} {l : List Pst} {f g : Lit → Option Value} (h : Own W w L) (h1 : box b (.cells [v, .map (some pm), .map (some bm)].toArray 193) ∈ L) (h2 : row 187 5 v (l.map pstC) ∈ L)
    (h3 : mapE Tryz.prog 9 pm n f ∈ L) (h4 : mapE Tryz.prog 195 bm k g ∈ L) (hn : n ≤ l.length) (hf : idOk l f) (hk : k ≤ 4 * l.length) (hg : BalOk l g) : BkAt w b v pm bm l :=
  ⟨h.has _ h1, h.has _ h2, ⟨n, f, h.has _ h3, hn, hf⟩, ⟨k, g, h.has _ h4, hk, hg⟩⟩
theorem run_pst_eql (p q : Pst) (w : World) : (binOp .eql 187 (.agg #[.string p.id, .int .i64 p.o, .int .i64 p.d, .int .i64 p.c, .int .i64 p.a]) (.agg #[.string q.id, .int .i64 q.o, .int .i64 q.d, .int .i64 q.c, .int .i64 q.a])).run Tryz.prog w = .ok (.bool (decide (p = q))) w := by
  obtain ⟨s, a, b, c, d⟩ := p
  obtain ⟨s', a', b', c', d'⟩ := q
  go_simp
  have hs : s.toList = s'.toList ↔ s = s' := by
    rw [ByteArray.toList_eq, ByteArray.toList_eq]
    obtain ⟨⟨x⟩⟩ := s
    obtain ⟨⟨y⟩⟩ := s'
    simp
  simp only [hs]
  (repeat' split) <;> simp_all

theorem run_pst_neq (p q : Pst) (w : World) : (binOp .neq 187 (.agg #[.string p.id, .int .i64 p.o, .int .i64 p.d, .int .i64 p.c, .int .i64 p.a]) (.agg #[.string q.id, .int .i64 q.o, .int .i64 q.d, .int .i64 q.c, .int .i64 q.a])).run Tryz.prog w = .ok (.bool (!decide (p = q))) w := by
  obtain ⟨s, a, b, c, d⟩ := p
  obtain ⟨s', a', b', c', d'⟩ := q
  go_simp
  have hs : s.toList = s'.toList ↔ s = s' := by
    rw [ByteArray.toList_eq, ByteArray.toList_eq]
    obtain ⟨⟨x⟩⟩ := s
    obtain ⟨⟨y⟩⟩ := s'
    simp
  simp only [hs]
  (repeat' split) <;> simp_all

set_option maxHeartbeats 16000000 in
set_option maxRecDepth 100000 in
theorem bkPost_own {W w : World} {M : List Ent} {b : Nat} {v : Value} {pm bm : Nat} {l : List Pst} (p : Pst) (HO : Own W w (bkPs b v pm bm l ++ M)) (hB : Bk l) (hp : WfP p) (hlen : l.length ≤ 100000) :
    Calls Tryz.prog 111 #[.pointer (some ⟨b, 0, none⟩), pstV p] w fun e w' => e = .returned (.int .i64 (postE l p)) ∧ ∃ v', Own W w' (bkPs b v' pm bm (postL l p) ++ M) := by
  replace HO : Own W w (box b (.cells [v, .map (some pm), .map (some bm)].toArray 193) :: row 187 5 v (l.map pstC) :: idE pm l :: balE bm l :: M) := HO
  obtain ⟨n1, f, hn1, hf, HO1⟩ := Own.idOpen HO (fun n f => .tail _ _ _ (.tail _ _ _ (.head _)))
  obtain ⟨n2, g, hn2, hg, HO2⟩ := Own.balOpen HO1 (fun n f => .tail _ _ _ (.tail _ _ _ (.tail _ _ _ (.head _))))
  have HC := Lib.hid (fun (w : World) (h : Own W w (box b (.cells [v, .map (some pm), .map (some bm)].toArray 193) :: row 187 5 v (l.map pstC) :: mapE Tryz.prog 9 pm n1 f :: mapE Tryz.prog 195 bm n2 g :: M)) => (⟨v, Own.balClose (Own.idClose h (.tail _ _ _ (.tail _ _ _ (.head _))) hn1 hf) (.tail _ _ _ (.tail _ _ _ (.tail _ _ _ (.head _)))) hn2 hg⟩ : ∃ v', Own W w (bkPs b v' pm bm l ++ M)))
  clear HO HO1
  have HO := HO2
  clear HO2
  have MY := fun w => mayB_any p w
  have MV := fun w (h : BkAt w b v pm bm l) => bkMoves_any h p hp hB.bal_in
  have hq := hf p.id hp.s
  have hkey := WideMaps.keyOf_string_mk (P := Tryz.prog) Tryz.underlying9 hp.s
  have hlt5 : n2 + 4 < maxLen := by unfold maxLen; omega
  have hlt1 : n1 < maxLen := by unfold maxLen; omega
  have hlen1 : (l.map pstC).length + 1 ≤ 1000000 := by rw [List.length_map]; omega
  have hidn := Lib.hid (fun h => idOk_snoc (p := p) hf h)
  have hbaln := Lib.hid (fun h => BalOk_snoc hg hp h)
  have hEq := fun q w => run_pst_eql q p w
  cases hm : mayPst p
  · have e1 : postE l p = 2 := by simp [postE, hm]
    have e2 : postL l p = l := by simp [postL, hm]
    rw [e1, e2]
    rw [hm] at MY
    clear hidn hbaln hEq e1 e2 hm MV hB hp
    obtain ⟨id, o, d, c, a⟩ := p
    simp only [pstV, pstC] at *
    go_enter Tryz.func111, Tryz.ntmps111
    go_wp2_with (first | (((with_reducible apply wpList_loadAll HO); exact rfl; exact rfl; (repeat (with_reducible (exact At.head _))); infer_instance; exact rfl; exact rfl; (simp only [Act.put, zA, zB, zC]))) | (((with_reducible apply wpList_boxAgg _ HO rfl); exact rfl; exact rfl; exact rfl; clear HO; intro b3 w HO; (simp only [Act.put, zA, zB, zC]))) | (go_at_call 112; go_must ((with_reducible refine (bkNone_any (HO.boxAt (by repeat (first | exact List.mem_cons_self | apply List.mem_cons_of_mem)))).mono ?_); rintro e w ⟨rfl, hb⟩; replace HO := HO.call hb; clear hb)) | (go_at_call 142; go_must ((with_reducible refine (MY _).mono ?_); rintro e w ⟨rfl, hb⟩; replace HO := HO.call hb; clear hb)))
    go_ret
    exact ⟨rfl, HC.out _ HO.tail⟩
  rw [hm] at MY
  cases hfp : findP l p.id with
  | some q =>
    have e1 : postE l p = if q = p then 0 else 91 := by simp [postE, hm, hfp]
    have e2 : postL l p = l := by simp [postL, hfp]
    rw [e2]
    have HE := Lib.hid e1
    generalize postE l p = ex at *
    rw [hfp] at hq
    have hEq := hEq q
    clear hidn hbaln e1 e2 hm MV hB hp hfp
    generalize hx : decide (q = p) = x at *
    have HX := Lib.hid hx
    clear hx
    obtain ⟨id, o, d, c, a⟩ := p
    obtain ⟨qi, qo, qd, qc, qa⟩ := q
    simp only [pstV, pstC, Option.map_some] at *
    go_enter Tryz.func111, Tryz.ntmps111
    go_upto_region 5 with (first | (((with_reducible apply wpList_loadAll HO); exact rfl; exact rfl; (repeat (with_reducible (exact At.head _))); infer_instance; exact rfl; exact rfl; (simp only [Act.put, zA, zB, zC]))) | (((with_reducible apply wpList_boxAgg _ HO rfl); exact rfl; exact rfl; exact rfl; clear HO; intro b3 w HO; (simp only [Act.put, zA, zB, zC]))) | (go_at_call 112; go_must ((with_reducible refine (bkNone_any (HO.boxAt (by repeat (first | exact List.mem_cons_self | apply List.mem_cons_of_mem)))).mono ?_); rintro e w ⟨rfl, hb⟩; replace HO := HO.call hb; clear hb)) | (go_at_call 142; go_must ((with_reducible refine (MY _).mono ?_); rintro e w ⟨rfl, hb⟩; replace HO := HO.call hb; clear hb)))
    refine region_sched2 ([box b3 (.cells #[.string id, .int .i64 o, .int .i64 d, .int .i64 c, .int .i64 a] 187), box b (.cells #[v, .map (some pm), .map (some bm)] 193), mapE Tryz.prog 9 pm n1 f]) [(0, true), (1, true), (2, true), (3, true), (4, true), (5, true), (6, true), (7, true), (8, true), (9, true), (10, false), (11, false), (12, true)] HO (by with_reducible (repeat (first | exact List.nil_sublist _ | apply List.Sublist.cons_cons | apply List.Sublist.cons))) (by kernel_rfl) (by kernel_rfl) ?_
    clear HO
    intro w HO
    repeat (first | ((with_reducible apply wpSched_loadOne); exact rfl; exact rfl; exact rfl; (repeat (with_reducible (first | exact At.head _ | apply At.tail))); exact rfl; infer_instance; exact rfl; (simp only [Act.put, zA, zB, zC])) | ((with_reducible apply wpSched_mapLook1 (kt := 9) (et := 187)); exact rfl; exact rfl; exact rfl; exact rfl; (repeat (with_reducible (first | exact At.head _ | apply At.tail))); exact strKeyed; exact Tryz.underlying190; infer_instance; exact hkey; (focus ((rw [hq]; done))); exact rfl; (simp only [Act.put, zA, zB, zC])) | ((with_reducible apply wpSched_pure); exact rfl; exact rfl; (intro w'; go_simp; try with_reducible rfl); (simp only [Act.put, zA, zB, zC])))
    ((with_reducible apply wpSched_loud); exact rfl; (((with_reducible apply wpList_allocAgg _ HO rfl); exact rfl; infer_instance; exact rfl; clear HO; intro b5 w HO; (simp only [Act.put, zA, zB, zC]))))
    refine wpList_nil (thenQ_keep (HO.held (by with_reducible (repeat (first | exact List.nil_sublist _ | apply List.Sublist.cons_cons | apply List.Sublist.cons)))) ?_)
    ((with_reducible apply wpSched_loud); exact rfl; ((with_reducible apply wpList_storeAll HO); exact rfl; exact rfl; exact rfl; (repeat (with_reducible (exact At.head _))); infer_instance; exact rfl; exact rfl; exact rfl; exact rfl; clear HO; intro w HO; (simp only [Act.put])))
    refine wpList_nil (thenQ_keep (HO.held (by with_reducible (repeat (first | exact List.nil_sublist _ | apply List.Sublist.cons_cons | apply List.Sublist.cons)))) ?_)
    ((with_reducible apply wpSched_pure); exact rfl; exact rfl; (intro w'; go_simp; try with_reducible rfl); (simp only [Act.put, zA, zB, zC]))
    refine wpSched_end ?_
    cases x
    · obtain rfl : ex = 91 := HE.out.trans (if_neg (of_decide_eq_false HX.out))
      go_wp2_with ((((with_reducible apply wpList_loadAll HO); exact rfl; exact rfl; (repeat (with_reducible (first | exact At.head _ | apply At.tail))); infer_instance; exact rfl; exact rfl; (simp only [Act.put, zA, zB, zC]))))
      go_ret
      exact ⟨rfl, HC.out _ HO.tail.tail⟩
    · obtain rfl : ex = 0 := HE.out.trans (if_pos (of_decide_eq_true HX.out))
      go_wp2_with ((((with_reducible apply wpList_loadAll HO); exact rfl; exact rfl; (repeat (with_reducible (first | exact At.head _ | apply At.tail))); infer_instance; exact rfl; exact rfl; (simp only [Act.put, zA, zB, zC]))))
      go_ret
      exact ⟨rfl, HC.out _ HO.tail.tail⟩
  | none =>
    have HN := Lib.hid hfp
    rw [hfp] at hq
    clear hEq
    cases hfit : fitsPst l p
    · have e1 : postE l p = 90 := by simp [postE, hm, hfp, hfit]
      have e2 : postL l p = l := by simp [postL, hfit]
      rw [e1, e2]
      simp only [MovesPost, hfit, Bool.false_eq_true, if_false] at MV
      clear hidn hbaln e1 e2 hm hB hp hfp hfit
      obtain ⟨id, o, d, c, a⟩ := p
      simp only [pstV, pstC, Option.map_none] at *
      go_enter Tryz.func111, Tryz.ntmps111
      go_upto_region 5 with (first | (((with_reducible apply wpList_loadAll HO); exact rfl; exact rfl; (repeat (with_reducible (exact At.head _))); infer_instance; exact rfl; exact rfl; (simp only [Act.put, zA, zB, zC]))) | (((with_reducible apply wpList_boxAgg _ HO rfl); exact rfl; exact rfl; exact rfl; clear HO; intro b3 w HO; (simp only [Act.put, zA, zB, zC]))) | (go_at_call 112; go_must ((with_reducible refine (bkNone_any (HO.boxAt (by repeat (first | exact List.mem_cons_self | apply List.mem_cons_of_mem)))).mono ?_); rintro e w ⟨rfl, hb⟩; replace HO := HO.call hb; clear hb)) | (go_at_call 142; go_must ((with_reducible refine (MY _).mono ?_); rintro e w ⟨rfl, hb⟩; replace HO := HO.call hb; clear hb)))
      refine region_sched2 ([box b3 (.cells #[.string id, .int .i64 o, .int .i64 d, .int .i64 c, .int .i64 a] 187), box b (.cells #[v, .map (some pm), .map (some bm)] 193), mapE Tryz.prog 9 pm n1 f]) [(0, true), (1, true), (2, true), (3, true), (4, true), (5, true), (6, true), (7, true), (8, true), (9, true), (10, false), (11, false), (12, true)] HO (by with_reducible (repeat (first | exact List.nil_sublist _ | apply List.Sublist.cons_cons | apply List.Sublist.cons))) (by kernel_rfl) (by kernel_rfl) ?_
      clear HO
      intro w HO
      repeat (first | ((with_reducible apply wpSched_loadOne); exact rfl; exact rfl; exact rfl; (repeat (with_reducible (first | exact At.head _ | apply At.tail))); exact rfl; infer_instance; exact rfl; (simp only [Act.put, zA, zB, zC])) | ((with_reducible apply wpSched_mapLook1 (kt := 9) (et := 187)); exact rfl; exact rfl; exact rfl; exact rfl; (repeat (with_reducible (first | exact At.head _ | apply At.tail))); exact strKeyed; exact Tryz.underlying190; infer_instance; exact hkey; (focus ((rw [hq]; done))); exact rfl; (simp only [Act.put, zA, zB, zC])) | ((with_reducible apply wpSched_pure); exact rfl; exact rfl; (intro w'; go_simp; try with_reducible rfl); (simp only [Act.put, zA, zB, zC])))
      ((with_reducible apply wpSched_loud); exact rfl; (((with_reducible apply wpList_allocAgg _ HO rfl); exact rfl; infer_instance; exact rfl; clear HO; intro b5 w HO; (simp only [Act.put, zA, zB, zC]))))
      refine wpList_nil (thenQ_keep (HO.held (by with_reducible (repeat (first | exact List.nil_sublist _ | apply List.Sublist.cons_cons | apply List.Sublist.cons)))) ?_)
      ((with_reducible apply wpSched_loud); exact rfl; ((with_reducible apply wpList_storeAll HO); exact rfl; exact rfl; exact rfl; (repeat (with_reducible (exact At.head _))); infer_instance; exact rfl; exact rfl; exact rfl; exact rfl; clear HO; intro w HO; (simp only [Act.put])))
      refine wpList_nil (thenQ_keep (HO.held (by with_reducible (repeat (first | exact List.nil_sublist _ | apply List.Sublist.cons_cons | apply List.Sublist.cons)))) ?_)
      ((with_reducible apply wpSched_pure); exact rfl; exact rfl; (intro w'; go_simp; try with_reducible rfl); (simp only [Act.put, zA, zB, zC]))
      refine wpSched_end ?_
      go_wp2_with (first | (((with_reducible apply wpList_loadAll HO); exact rfl; exact rfl; (repeat (with_reducible (first | exact At.head _ | apply At.tail))); infer_instance; exact rfl; exact rfl; (simp only [Act.put, zA, zB, zC]))) | (go_at_call 143; go_must ((with_reducible refine (MV _ (Own.bkOf HO (by repeat (first | exact List.mem_cons_self | apply List.mem_cons_of_mem)) (by repeat (first | exact List.mem_cons_self | apply List.mem_cons_of_mem)) (by repeat (first | exact List.mem_cons_self | apply List.mem_cons_of_mem)) (by repeat (first | exact List.mem_cons_self | apply List.mem_cons_of_mem)) hn1 hf hn2 hg)).mono ?_); rintro e w ⟨rfl, hb⟩; replace HO := HO.call hb; clear hb)))
      go_ret
      exact ⟨rfl, HC.out _ HO.tail.tail⟩
    · have e1 : postE l p = 0 := by simp [postE, hm, hfp, hfit]
      have e2 : postL l p = l ++ [p] := by simp [postL, hm, hfp, hfit]
      rw [e1, e2]
      simp only [MovesPost, hfit, if_true] at MV
      replace hidn := Lib.hid (hidn.out hfp)
      replace hbaln := Lib.hid (hbaln.out hm)
      have hmi := movesF_int l p
      have hpc : (l ++ [p]).map pstC = l.map pstC ++ [pstC p] := by simp
      generalize movesF l p = mv at *
      clear e1 e2 hm hB hp hfp hfit
      generalize hlp : l ++ [p] = lp at *
      replace hpc := Lib.hid hpc
      replace hlp := Lib.hid hlp
      obtain ⟨id, o, d, c, a⟩ := p
      simp only [pstV, pstC, Option.map_none] at *
      go_enter Tryz.func111, Tryz.ntmps111
      go_upto_region 5 with (first | (((with_reducible apply wpList_loadAll HO); exact rfl; exact rfl; (repeat (with_reducible (exact At.head _))); infer_instance; exact rfl; exact rfl; (simp only [Act.put, zA, zB, zC]))) | (((with_reducible apply wpList_boxAgg _ HO rfl); exact rfl; exact rfl; exact rfl; clear HO; intro b3 w HO; (simp only [Act.put, zA, zB, zC]))) | (go_at_call 112; go_must ((with_reducible refine (bkNone_any (HO.boxAt (by repeat (first | exact List.mem_cons_self | apply List.mem_cons_of_mem)))).mono ?_); rintro e w ⟨rfl, hb⟩; replace HO := HO.call hb; clear hb)) | (go_at_call 142; go_must ((with_reducible refine (MY _).mono ?_); rintro e w ⟨rfl, hb⟩; replace HO := HO.call hb; clear hb)))
      refine region_sched2 ([box b3 (.cells #[.string id, .int .i64 o, .int .i64 d, .int .i64 c, .int .i64 a] 187), box b (.cells #[v, .map (some pm), .map (some bm)] 193), mapE Tryz.prog 9 pm n1 f]) [(0, true), (1, true), (2, true), (3, true), (4, true), (5, true), (6, true), (7, true), (8, true), (9, true), (10, false), (11, false), (12, true)] HO (by with_reducible (repeat (first | exact List.nil_sublist _ | apply List.Sublist.cons_cons | apply List.Sublist.cons))) (by kernel_rfl) (by kernel_rfl) ?_
      clear HO
      intro w HO
      repeat (first | ((with_reducible apply wpSched_loadOne); exact rfl; exact rfl; exact rfl; (repeat (with_reducible (first | exact At.head _ | apply At.tail))); exact rfl; infer_instance; exact rfl; (simp only [Act.put, zA, zB, zC])) | ((with_reducible apply wpSched_mapLook1 (kt := 9) (et := 187)); exact rfl; exact rfl; exact rfl; exact rfl; (repeat (with_reducible (first | exact At.head _ | apply At.tail))); exact strKeyed; exact Tryz.underlying190; infer_instance; exact hkey; (focus ((rw [hq]; done))); exact rfl; (simp only [Act.put, zA, zB, zC])) | ((with_reducible apply wpSched_pure); exact rfl; exact rfl; (intro w'; go_simp; try with_reducible rfl); (simp only [Act.put, zA, zB, zC])))
      ((with_reducible apply wpSched_loud); exact rfl; (((with_reducible apply wpList_allocAgg _ HO rfl); exact rfl; infer_instance; exact rfl; clear HO; intro b5 w HO; (simp only [Act.put, zA, zB, zC]))))
      refine wpList_nil (thenQ_keep (HO.held (by with_reducible (repeat (first | exact List.nil_sublist _ | apply List.Sublist.cons_cons | apply List.Sublist.cons)))) ?_)
      ((with_reducible apply wpSched_loud); exact rfl; ((with_reducible apply wpList_storeAll HO); exact rfl; exact rfl; exact rfl; (repeat (with_reducible (exact At.head _))); infer_instance; exact rfl; exact rfl; exact rfl; exact rfl; clear HO; intro w HO; (simp only [Act.put])))
      refine wpList_nil (thenQ_keep (HO.held (by with_reducible (repeat (first | exact List.nil_sublist _ | apply List.Sublist.cons_cons | apply List.Sublist.cons)))) ?_)
      ((with_reducible apply wpSched_pure); exact rfl; exact rfl; (intro w'; go_simp; try with_reducible rfl); (simp only [Act.put, zA, zB, zC]))
      refine wpSched_end ?_
      go_upto_region 14 with (first | (first | ((with_reducible apply wpList_loadAll HO); exact rfl; exact rfl; (repeat (with_reducible (first | exact At.head _ | apply At.tail))); infer_instance; exact rfl; exact rfl; (simp only [Act.put, zA, zB, zC])) | ((with_reducible apply wpList_loadOne HO); exact rfl; exact rfl; (repeat (with_reducible (first | exact At.head _ | apply At.tail))); exact rfl; infer_instance; exact rfl; (simp only [Act.put, zA, zB, zC]))) | (go_at_call 143; go_must ((with_reducible refine (MV _ (Own.bkOf HO (by repeat (first | exact List.mem_cons_self | apply List.mem_cons_of_mem)) (by repeat (first | exact List.mem_cons_self | apply List.mem_cons_of_mem)) (by repeat (first | exact List.mem_cons_self | apply List.mem_cons_of_mem)) (by repeat (first | exact List.mem_cons_self | apply List.mem_cons_of_mem)) hn1 hf hn2 hg)).mono ?_); rintro e w ⟨om, rfl, HO1⟩; replace HO := HO.lift HO1; clear HO1; simp only [List.cons_append, List.nil_append] at HO; replace HO := HO.perm ((List.perm_middle (l₁ := [_, _, _, _, _])).cons _); simp only [List.cons_append, List.nil_append] at HO)) | (go_at_call 144; go_must ((with_reducible refine (mapsCopy_any HO (by omega) (fun k _ v h => hmi k v h)).mono ?_); clear HO; rintro e w ⟨rfl, HO⟩)))
      refine region_sched2 ([box b3 (.cells #[.string id, .int .i64 o, .int .i64 d, .int .i64 c, .int .i64 a] 187), box b (.cells #[v, .map (some pm), .map (some bm)] 193)]) [(0, true), (1, true), (2, true), (3, true), (4, true), (5, true), (6, true), (7, false)] HO (by with_reducible (repeat (first | exact List.nil_sublist _ | apply List.Sublist.cons_cons | apply List.Sublist.cons))) (by kernel_rfl) (by kernel_rfl) ?_
      clear HO
      intro w HO
      repeat (first | ((with_reducible apply wpSched_loadOne); exact rfl; exact rfl; exact rfl; (repeat (with_reducible (first | exact At.head _ | apply At.tail))); exact rfl; infer_instance; exact rfl; (simp only [Act.put, zA, zB, zC])) | ((with_reducible apply wpSched_loadAll); exact rfl; exact rfl; exact rfl; (repeat (with_reducible (exact At.head _))); infer_instance; exact rfl; exact rfl; (simp only [Act.put, zA, zB, zC])) | ((with_reducible apply wpSched_pure); exact rfl; exact rfl; (intro w'; go_simp; try with_reducible rfl); (simp only [Act.put, zA, zB, zC])))
      ((with_reducible apply wpSched_loud); exact rfl; ((with_reducible apply wpList_mapPut HO (kt := 9) (et := 187)); exact rfl; exact rfl; exact rfl; ((simp [Act.eval]; rfl)); (repeat (with_reducible (first | exact At.head _ | apply At.tail))); exact strKeyed; exact Tryz.underlying190; exact hlt1; exact hkey; exact rfl; clear HO; intro w HO; (simp only [Act.put])))
      refine wpList_nil (thenQ_keep (HO.held (by with_reducible (repeat (first | exact List.nil_sublist _ | apply List.Sublist.cons_cons | apply List.Sublist.cons)))) ?_)
      refine wpSched_end ?_
      go_upto_region 15 with fail
      refine region_sched2 ([box b3 (.cells #[.string id, .int .i64 o, .int .i64 d, .int .i64 c, .int .i64 a] 187), box b (.cells #[v, .map (some pm), .map (some bm)] 193)]) [(0, true), (1, true), (2, true), (3, true), (4, true), (5, true), (6, false), (7, false), (8, true), (9, true), (10, false)] HO (by with_reducible (repeat (first | exact List.nil_sublist _ | apply List.Sublist.cons_cons | apply List.Sublist.cons))) (by kernel_rfl) (by kernel_rfl) ?_
      clear HO
      intro w HO
      repeat (first | ((with_reducible apply wpSched_loadOne); exact rfl; exact rfl; exact rfl; (repeat (with_reducible (first | exact At.head _ | apply At.tail))); exact rfl; infer_instance; exact rfl; (simp only [Act.put, zA, zB, zC])) | ((with_reducible apply wpSched_loadAll); exact rfl; exact rfl; exact rfl; (repeat (with_reducible (exact At.head _))); infer_instance; exact rfl; exact rfl; (simp only [Act.put, zA, zB, zC])) | ((with_reducible apply wpSched_pure); exact rfl; exact rfl; (intro w'; go_simp; try with_reducible rfl); (simp only [Act.put, zA, zB, zC])))
      ((with_reducible apply wpSched_loud); exact rfl; (((with_reducible apply wpList_lit1 HO); exact rfl; infer_instance; infer_instance; exact rfl; exact rfl; exact (by decide); exact rfl; clear HO; intro bl w HO; (simp only [Act.put, zA, zB, zC]))))
      refine wpList_nil (thenQ_keep (HO.held (by with_reducible (repeat (first | exact List.nil_sublist _ | apply List.Sublist.cons_cons | apply List.Sublist.cons)))) ?_)
      ((with_reducible apply wpSched_loud); exact rfl; ((with_reducible apply wpList_push1 HO); exact rfl; infer_instance; infer_instance; ((simp [Act.eval]; rfl)); exact rfl; intro _; (repeat (with_reducible (first | exact At.head _ | apply At.tail))); exact rfl; exact rfl; (omega); decide; exact rfl; clear HO; intro v2 w HO hv2; (simp only [Act.put, zA, zB, zC])))
      obtain ⟨p9, n9, c9, rfl⟩ := hv2
      refine wpList_nil (thenQ_free (by kernel_rfl) ?_)
      repeat ((with_reducible apply wpSched_pure); exact rfl; exact rfl; (intro w'; go_simp; try with_reducible rfl); (simp only [Act.put, zA, zB, zC]))
      ((with_reducible apply wpSched_loud); exact rfl; ((with_reducible apply wpList_storeOne HO); exact rfl; exact rfl; ((simp [Act.eval]; rfl)); exact rfl; (repeat (with_reducible (first | exact At.head _ | apply At.tail))); infer_instance; exact (by simp); (simp only [List.set_cons_zero]; rfl); exact rfl; clear HO; intro w HO; (simp only [Act.put])))
      refine wpList_nil (thenQ_free (by kernel_rfl) ?_)
      refine wpSched_end ?_
      go_wp2_with fail
      go_ret
      refine ⟨rfl, .slice p9 n9 c9, ?_⟩
      have h1 := (HO.sub (.cons _ (.cons_cons _ (.cons _ (.cons _ (List.Sublist.refl _)))))).perm (List.perm_middle (l₁ := [_, _, _])).symm
      simp only [List.cons_append, List.nil_append] at h1
      have hll : lp.length = l.length + 1 := by rw [← hlp.out]; simp
      have h2 := Own.balClose (Own.idClose h1 (.tail _ _ _ (.tail _ _ _ (.head _))) (by rw [hll]; omega) hidn.out) (.tail _ _ _ (.tail _ _ _ (.tail _ _ _ (.head _)))) (by rw [hll]; omega) hbaln.out
      show Own W w (box b _ :: row _ 5 (.slice p9 n9 c9) (lp.map pstC) :: _ :: _ :: M)
      rw [hpc.out]
      exact h2
/-- The same, wherever the books stand among the caller's own memory. -/
theorem bkPost_any {W w : World} {L : List Ent} {L' : Value → List Ent} {b : Nat} {v : Value} {pm bm : Nat} {l : List Pst} (p : Pst) (HO : Own W w L) (hat : ∀ v', At (bkE b v pm bm l) (bkE b v' pm bm (postL l p)) L (L' v')) (hB : Bk l) (hp : WfP p) (hlen : l.length ≤ 100000) :
    Calls Tryz.prog 111 #[.pointer (some ⟨b, 0, none⟩), pstV p] w fun e w' => e = .returned (.int .i64 (postE l p)) ∧ ∃ v', Own W w' (L' v') := by
  obtain ⟨M, p1, p2⟩ := At.fronts hat v
  refine (bkPost_own p (HO.perm p1).unjoin hB hp hlen).mono fun e w' h => ?_
  obtain ⟨rfl, v', h1⟩ := h
  exact ⟨rfl, v', (Own.join h1).perm (p2 v').symm⟩
end Go.Proofs.YtibabfedpdoofaaGreatDoor
namespace Go.Proofs.YtibabfedpdoofaaGreatDoor
open Go.RowKit Go.Own

end Go.Proofs.YtibabfedpdoofaaGreatDoor
namespace Go.Proofs.YtibabfedpdoofaaGreatDoor
open Go.RowKit Go.Own

end Go.Proofs.YtibabfedpdoofaaGreatDoor
namespace Go.Proofs.YtibabfedpdoofaaGreatDoor
open Go.RowKit Go.Own

end Go.Proofs.YtibabfedpdoofaaGreatDoor
namespace Go.Proofs.YtibabfedpdoofaaGreatDoor
open Go.RowKit Go.Own

def nameByte (c : Nat) : Bool := (decide (65 ≤ c) && decide (c ≤ 90)) || (decide (97 ≤ c) && decide (c ≤ 122)) || (decide (48 ≤ c) && decide (c ≤ 57)) || decide (c = 45) || decide (c = 95)
def isName (l : List UInt8) : Bool := l.all fun c => nameByte c.toNat
theorem isName_not {l : List UInt8} {i : Nat} (h : i < l.length) (hc : nameByte l[i].toNat = false) : isName l = false := by
  unfold isName
  rw [List.all_eq_false]
  exact ⟨l[i], List.getElem_mem _, by simp [hc]⟩
theorem isName_all {l : List UInt8} (h : ∀ c ∈ l.take l.length, nameByte c.toNat = true) : isName l = true := by
  rw [List.take_length] at h
  exact List.all_eq_true.2 h
theorem name_snoc {l : List UInt8} {i : Nat} (h : i < l.length) (hp : ∀ c ∈ l.take i, nameByte c.toNat = true) (hc : nameByte l[i].toNat = true) : ∀ c ∈ l.take (i + 1), nameByte c.toNat = true := by
  rw [List.take_succ_eq_append_getElem h]
  intro c hm
  rcases List.mem_append.1 hm with h1 | h1
  · exact hp c h1
  · rw [List.mem_singleton.1 h1]; exact hc

theorem nameByte_iff {c : Nat} : nameByte c = true ↔ (65 ≤ c ∧ c ≤ 90) ∨ (97 ≤ c ∧ c ≤ 122) ∨ (48 ≤ c ∧ c ≤ 57) ∨ c = 45 ∨ c = 95 := by
  simp [nameByte, or_assoc]
theorem nameByte_iff_not {c : Nat} : nameByte c = false ↔ ¬ ((65 ≤ c ∧ c ≤ 90) ∨ (97 ≤ c ∧ c ≤ 122) ∨ (48 ≤ c ∧ c ≤ 57) ∨ c = 45 ∨ c = 95) := by
  rw [← nameByte_iff]; simp

set_option maxHeartbeats 1000000 in
theorem refName_any (l : List UInt8) (w : World) (hl : l.length ≤ maxLen) : Calls Tryz.prog 132 #[.string ⟨l.toArray⟩] w fun e w' => e = .returned (.bool (isName l)) ∧ Below w.heap.size w w' := by
  unfold maxLen at hl
  go_enter Tryz.func132, Tryz.ntmps132
  go_wp2_with fail
  go_loop [3] (fun c => ∃ i : Nat, i ≤ l.length ∧ c = .int .i64 i ∧ (∀ c ∈ l.take i, nameByte c.toNat = true)) (fun c => l.length - (intOf c).toNat)
  case atStart => exact ⟨0, by omega, rfl, by simp⟩
  case round =>
    obtain ⟨i, h1, rfl, h3⟩ := hrel
    have H3 := Lib.hid h3
    clear h3
    by_cases hi : i < l.length
    · have hlt : (i : Int) < (l.length : Int) := by omega
      cases hn : nameByte l[i].toNat
      · have HN := Lib.hid hn
        have hc : ¬ ((65 ≤ (l[i].toNat : Int) ∧ (l[i].toNat : Int) ≤ 90) ∨ (97 ≤ (l[i].toNat : Int) ∧ (l[i].toNat : Int) ≤ 122) ∨ (48 ≤ (l[i].toNat : Int) ∧ (l[i].toNat : Int) ≤ 57) ∨ (l[i].toNat : Int) = 45 ∨ (l[i].toNat : Int) = 95) := by
          have := nameByte_iff_not.1 hn; omega
        have e1 : ((l[i].toNat : Int) == 45) = false := by simp; omega
        have e2 : ((l[i].toNat : Int) == 95) = false := by simp; omega
        have HC := Lib.hid hc
        have HF := Lib.hid (isName_not hi hn)
        clear hn hc
        go_wp2_with fail
        all_goals first
          | (go_ret; exact ⟨ret_bool HF.out.symm, Below.refl _ _⟩)
          | (exfalso; have hh := HC.out; clear HC; simp at *; omega)
      · have HN := Lib.hid hn
        have hc : ((65 ≤ (l[i].toNat : Int) ∧ (l[i].toNat : Int) ≤ 90) ∨ (97 ≤ (l[i].toNat : Int) ∧ (l[i].toNat : Int) ≤ 122) ∨ (48 ≤ (l[i].toNat : Int) ∧ (l[i].toNat : Int) ≤ 57) ∨ (l[i].toNat : Int) = 45 ∨ (l[i].toNat : Int) = 95) := by
          have := nameByte_iff.1 hn; omega
        have HC := Lib.hid hc
        clear hn hc
        go_wp2_with fail
        all_goals first
          | (go_round
             case rel => exact ⟨i + 1, by omega, by go_num, name_snoc hi H3.out HN.out⟩
             case measure => simp [intOf] <;> omega)
          | (exfalso; rcases HC.out with h | h | h | h | h <;> first | omega | (simp_all; done))
    · have : i = l.length := by omega
      subst this
      have HF := Lib.hid (isName_all H3.out)
      go_wp2_with fail
      go_ret
      exact ⟨ret_bool HF.out.symm, Below.refl _ _⟩

set_option maxHeartbeats 1000000 in
theorem name_any (l : List UInt8) (w : World) (hl : l.length ≤ maxLen) : Calls Tryz.prog 154 #[.string ⟨l.toArray⟩] w fun e w' => e = .returned (.bool (isName l)) ∧ Below w.heap.size w w' := by
  unfold maxLen at hl
  have hB : ∀ p, Below w.heap.size w (w.iter ⟨l.toArray⟩ p) := fun p => (Below.refl _ _).alloc (Nat.le_refl _) _
  have HB := Lib.hid hB
  clear hB
  go_enter Tryz.func154, Tryz.ntmps154
  go_wp2_with fail
  go_loopw [4] (fun c wr => ∃ i : Nat, i ≤ l.length ∧ wr = w.iter ⟨l.toArray⟩ i ∧ (∀ c ∈ l.take i, nameByte c.toNat = true)) (fun _ wr => l.length - wr.iterPos w.heap.size)
  case atStart => exact ⟨0, by omega, rfl, by simp⟩
  case round =>
    obtain ⟨i, h1, rfl, h3⟩ := hrel
    have H3 := Lib.hid h3
    clear h3
    by_cases hi : i < l.length
    · have hlt : (i : Int) < (l.length : Int) := by omega
      by_cases ha : l[i].toNat < 128
      · have hnx := fun ty => run_next_ascii (P := Tryz.prog) w ⟨l.toArray⟩ i ty hi ha
        cases hn : nameByte l[i].toNat
        · have HN := Lib.hid hn
          have hc : ¬ ((65 ≤ (l[i].toNat : Int) ∧ (l[i].toNat : Int) ≤ 90) ∨ (97 ≤ (l[i].toNat : Int) ∧ (l[i].toNat : Int) ≤ 122) ∨ (48 ≤ (l[i].toNat : Int) ∧ (l[i].toNat : Int) ≤ 57) ∨ (l[i].toNat : Int) = 45 ∨ (l[i].toNat : Int) = 95) := by
            have := nameByte_iff_not.1 hn; omega
          have e1 : ((l[i].toNat : Int) == 45) = false := by simp; omega
          have e2 : ((l[i].toNat : Int) == 95) = false := by simp; omega
          have HC := Lib.hid hc
          have HF := Lib.hid (isName_not hi hn)
          clear hn hc
          go_wp2_with fail
          all_goals first
            | (go_ret; exact ⟨ret_bool HF.out.symm, HB.out _⟩)
            | (exfalso; have hh := HC.out; clear HC; simp at *; omega)
        · have HN := Lib.hid hn
          have hc : ((65 ≤ (l[i].toNat : Int) ∧ (l[i].toNat : Int) ≤ 90) ∨ (97 ≤ (l[i].toNat : Int) ∧ (l[i].toNat : Int) ≤ 122) ∨ (48 ≤ (l[i].toNat : Int) ∧ (l[i].toNat : Int) ≤ 57) ∨ (l[i].toNat : Int) = 45 ∨ (l[i].toNat : Int) = 95) := by
            have := nameByte_iff.1 hn; omega
          have HC := Lib.hid hc
          clear hn hc
          go_wp2_with fail
          all_goals first
            | (go_roundw
               case rel => exact ⟨i + 1, by omega, rfl, name_snoc hi H3.out HN.out⟩
               case measure => simp <;> omega)
            | (exfalso; rcases HC.out with h | h | h | h | h <;> first | omega | (simp_all; done))
      · have hdh := (decode_high ⟨l.toArray⟩ i hi (by show 128 ≤ l[i].toNat; omega)).1
        have hnx := fun ty => run_next_any (P := Tryz.prog) w ⟨l.toArray⟩ i ty hi
        have HF := Lib.hid (isName_not hi (nameByte_iff_not.2 (by omega)))
        generalize Utf8.decode ⟨l.toArray⟩ i = d at hdh hnx
        have hd1 : (128 : Int) ≤ (d.1 : Int) := by omega
        clear hdh
        have e1 : ((d.1 : Int) == 45) = false := by simp; omega
        have e2 : ((d.1 : Int) == 95) = false := by simp; omega
        go_wp2_with fail
        all_goals (go_ret; exact ⟨ret_bool HF.out.symm, HB.out _⟩)
    · have : i = l.length := by omega
      subst this
      have HF := Lib.hid (isName_all H3.out)
      have hnx := fun ty => run_next_end (P := Tryz.prog) w ⟨l.toArray⟩ l.length ty (by simp [ByteArray.size])
      go_wp2_with fail
      go_ret
      exact ⟨ret_bool HF.out.symm, HB.out _⟩
end Go.Proofs.YtibabfedpdoofaaGreatDoor
namespace Go.Proofs.YtibabfedpdoofaaGreatDoor
open Go.RowKit Go.Own

/-- What is wrong with an order. -/
def ordCheck (id : Int) (ref sku : List UInt8) (qty amt : Int) : Int :=
  if id < 1 ∨ 60 < id ∨ qty < 1 ∨ 999 < qty ∨ amt < 1 ∨ 1099511627776 < amt ∨ ref = [] ∨ sku = [] then 2
  else if 16 < ref.length ∨ 8 < sku.length then 3
  else if isName ref = true ∧ isName sku = true then 0 else 2

set_option maxHeartbeats 2000000 in
theorem ordCheck_any (id : Int) (ref sku : List UInt8) (qty amt : Int) (w : World) (h1 : ref.length ≤ maxLen) (h2 : sku.length ≤ maxLen) :
    Calls Tryz.prog 125 #[.agg #[.int .i64 id, .string ⟨ref.toArray⟩, .string ⟨sku.toArray⟩, .int .i64 qty, .int .i64 amt]] w fun e w' => e = .returned (.int .i64 (ordCheck id ref sku qty amt)) ∧ Below w.heap.size w w' := by
  have N1 := fun w => name_any ref w h1
  have N2 := fun w => name_any sku w h2
  unfold maxLen at h1 h2
  go_enter Tryz.func125, Tryz.ntmps125
  go_wp2_with (go_at_call 154; go_must ((first | (with_reducible refine (N1 _).mono ?_) | (with_reducible refine (N2 _).mono ?_)); rintro e w1 ⟨rfl, hb⟩; obtain ⟨hc, hf⟩ := bcell hb; have hz := hb.size; (try simp at hz); (try have hzT := Nat.lt_of_succ_le hz)))
  all_goals (go_ret; refine ⟨ret_int ?_, (by with_reducible (repeat (first | exact Below.refl _ _ | refine Below.alloc ?_ (by first | (simp; done) | omega | (simp; omega)) _ | refine Below.trans ?_ (Below.mono (by assumption) (by first | (simp; done) | omega | (simp; omega))))))⟩)
  all_goals clear N1 N2
  all_goals try clear hb hc hf
  all_goals try clear hb hc hf
  all_goals first | (simp_all [ordCheck]; done) | (simp_all [ordCheck]; omega) | grind [ordCheck]

set_option maxHeartbeats 2000000 in
theorem refOrdCheck_any (id : Int) (ref sku : List UInt8) (qty amt : Int) (w : World) (h1 : ref.length ≤ maxLen) (h2 : sku.length ≤ maxLen) :
    Calls Tryz.prog 83 #[.agg #[.int .i64 id, .string ⟨ref.toArray⟩, .string ⟨sku.toArray⟩, .int .i64 qty, .int .i64 amt]] w fun e w' => e = .returned (.int .i64 (ordCheck id ref sku qty amt)) ∧ Below w.heap.size w w' := by
  have N1 := fun w => refName_any ref w h1
  have N2 := fun w => refName_any sku w h2
  unfold maxLen at h1 h2
  go_enter Tryz.func83, Tryz.ntmps83
  go_wp2_with (go_at_call 132; go_must ((first | (with_reducible refine (N1 _).mono ?_) | (with_reducible refine (N2 _).mono ?_)); rintro e w1 ⟨rfl, hb⟩; obtain ⟨hc, hf⟩ := bcell hb; have hz := hb.size; (try simp at hz); (try have hzT := Nat.lt_of_succ_le hz)))
  all_goals (go_ret; refine ⟨ret_int ?_, (by with_reducible (repeat (first | exact Below.refl _ _ | refine Below.alloc ?_ (by first | (simp; done) | omega | (simp; omega)) _ | refine Below.trans ?_ (Below.mono (by assumption) (by first | (simp; done) | omega | (simp; omega))))))⟩)
  all_goals clear N1 N2
  all_goals try clear hb hc hf
  all_goals try clear hb hc hf
  all_goals first | (simp_all [ordCheck, List.length_eq_zero_iff]; done) | (simp_all [ordCheck, List.length_eq_zero_iff]; omega) | grind [ordCheck, List.length_eq_zero_iff]

theorem ordCheck_ok {id : Int} {ref sku : List UInt8} {qty amt : Int} (h : ordCheck id ref sku qty amt = 0) :
    1 ≤ id ∧ id ≤ 60 ∧ 1 ≤ qty ∧ qty ≤ 999 ∧ 1 ≤ amt ∧ amt ≤ 1099511627776 ∧ ref ≠ [] ∧ sku ≠ [] ∧ ref.length ≤ 16 ∧ sku.length ≤ 8 ∧ isName ref = true ∧ isName sku = true := by
  unfold ordCheck at h
  split at h
  · cases h
  · split at h
    · cases h
    · split at h
      · rename_i a b c
        simp only [not_or] at a b
        obtain ⟨c1, c2⟩ := c
        exact ⟨by omega, by omega, by omega, by omega, by omega, by omega, a.2.2.2.2.2.2.1, a.2.2.2.2.2.2.2, by omega, by omega, c1, c2⟩
      · cases h
end Go.Proofs.YtibabfedpdoofaaGreatDoor
namespace Go.Proofs.YtibabfedpdoofaaGreatDoor
open Go.RowKit Go.Own

def isDeed (d : Int) : Bool := decide (0 ≤ d) && decide (d < 6)
def keyOk (o d : Int) : Bool := decide (1 ≤ o) && decide (o ≤ 60) && isDeed d
def partyOf (d : Int) : Int := if d = 0 then 1 else if d = 1 then 0 else if d = 2 then 2 else if d = 3 then 1 else if d = 4 then 0 else if d = 5 then 2 else -1
def keyLess (a b c d : Int) : Bool := decide (a < c) || (decide (a = c) && decide (b < d))

/-- The table of parties lies in memory. -/
def Laid (w : World) : Prop := 2 < w.heap.size ∧ w.cell? ⟨2, 0, none⟩ = some (.int .i64 1) ∧ w.cell? ⟨2, 1, none⟩ = some (.int .i64 0) ∧ w.cell? ⟨2, 2, none⟩ = some (.int .i64 2) ∧
  w.cell? ⟨2, 3, none⟩ = some (.int .i64 1) ∧ w.cell? ⟨2, 4, none⟩ = some (.int .i64 0) ∧ w.cell? ⟨2, 5, none⟩ = some (.int .i64 2)
theorem Laid.below {B : Nat} {w w' : World} (h : Laid w) (hb : Below B w w') (hB : 2 < B) : Laid w' := by
  have hs := hb.size
  obtain ⟨h0, h⟩ := h
  obtain ⟨hc, _⟩ := bcell hb
  refine ⟨by omega, ?_⟩
  rw [hc _ 0 hB, hc _ 1 hB, hc _ 2 hB, hc _ 3 hB, hc _ 4 hB, hc _ 5 hB]
  exact h

theorem is_any (d : Int) (w : World) : Calls Tryz.prog 173 #[.int .i64 d] w fun e w' => e = .returned (.bool (isDeed d)) ∧ Below w.heap.size w w' := by
  by_cases h : 0 ≤ d
  · go_enter Tryz.func173, Tryz.ntmps173
    go_wp2
    go_ret
    exact ⟨by simp [isDeed, h], (by with_reducible (repeat (exact Below.refl _ _)))⟩
  · go_enter Tryz.func173, Tryz.ntmps173
    go_wp2
    go_ret
    exact ⟨by simp [isDeed, show ¬ 0 ≤ d by omega], (by with_reducible (repeat (exact Below.refl _ _)))⟩

theorem party_any (d : Int) (w : World) (hL : Laid w) : Calls Tryz.prog 203 #[.int .i64 d] w fun e w' => e = .returned (.int .i64 (partyOf d)) ∧ Below w.heap.size w w' := by
  obtain ⟨h0, c0, c1, c2, c3, c4, c5⟩ := hL
  by_cases h : 0 ≤ d ∧ d < 6
  · have hd : d = 0 ∨ d = 1 ∨ d = 2 ∨ d = 3 ∨ d = 4 ∨ d = 5 := by omega
    rcases hd with rfl | rfl | rfl | rfl | rfl | rfl
    all_goals
      go_enter Tryz.func203, Tryz.ntmps203
      go_wp2
      go_ret
      exact ⟨rfl, (by with_reducible (repeat (exact Below.refl _ _)))⟩
  · have hn : isDeed d = false := by simp [isDeed]; omega
    have hp : partyOf d = -1 := by unfold partyOf; repeat (rw [if_neg (by omega)])
    go_enter Tryz.func203, Tryz.ntmps203
    go_wp2_with (go_at_call 173; go_must (refine (is_any _ _).mono ?_; rintro e w1 ⟨rfl, hb⟩))
    go_ret
    exact ⟨ret_int hp.symm, hb⟩

theorem refParty_any (d : Int) (w : World) : Calls Tryz.prog 164 #[.int .i64 d] w fun e w' => e = .returned (.int .i64 (partyOf d)) ∧ Below w.heap.size w w' := by
  by_cases h : 0 ≤ d ∧ d < 6
  · have hd : d = 0 ∨ d = 1 ∨ d = 2 ∨ d = 3 ∨ d = 4 ∨ d = 5 := by omega
    rcases hd with rfl | rfl | rfl | rfl | rfl | rfl
    all_goals
      go_enter Tryz.func164, Tryz.ntmps164
      go_wp2
      go_ret
      exact ⟨rfl, (by with_reducible (repeat (exact Below.refl _ _)))⟩
  · have hp : partyOf d = -1 := by unfold partyOf; repeat (rw [if_neg (by omega)])
    by_cases h1 : d < 0
    all_goals
      go_enter Tryz.func164, Tryz.ntmps164
      go_wp2
      go_ret
      first | exact ⟨ret_int hp.symm, (by with_reducible (repeat (exact Below.refl _ _)))⟩ | exact ⟨rfl, (by with_reducible (repeat (exact Below.refl _ _)))⟩

theorem keyCheck_any (o d : Int) (w : World) : Calls Tryz.prog 156 #[.agg #[.int .i64 o, .int .i64 d]] w fun e w' => e = .returned (.bool (keyOk o d)) ∧ Below w.heap.size w w' := by
  go_enter Tryz.func156, Tryz.ntmps156
  go_wp2_with (go_at_call 173; go_must (refine (is_any _ _).mono ?_; rintro e w1 ⟨rfl, hb⟩))
  all_goals go_ret
  all_goals refine ⟨ret_bool ?_, (by with_reducible (repeat (first | exact Below.refl _ _ | refine Below.alloc ?_ (by first | (simp; done) | omega | (simp; omega)) _ | refine Below.trans ?_ (Below.mono (by assumption) (by first | (simp; done) | omega | (simp; omega))))))⟩
  all_goals (rw [Bool.eq_iff_iff]; simp [keyOk, isDeed] <;> omega)

theorem refKeyCheck_any (o d : Int) (w : World) : Calls Tryz.prog 161 #[.agg #[.int .i64 o, .int .i64 d]] w fun e w' => e = .returned (.bool (keyOk o d)) ∧ Below w.heap.size w w' := by
  go_enter Tryz.func161, Tryz.ntmps161
  go_wp2
  all_goals (go_ret; refine ⟨ret_bool ?_, (by with_reducible (repeat (first | exact Below.refl _ _ | refine Below.alloc ?_ (by first | (simp; done) | omega | (simp; omega)) _)))⟩; rw [Bool.eq_iff_iff]; simp [keyOk, isDeed] <;> first | omega | grind)

theorem less_any (a b c d : Int) (w : World) : Calls Tryz.prog 189 #[.agg #[.int .i64 a, .int .i64 b], .agg #[.int .i64 c, .int .i64 d]] w fun e w' => e = .returned (.bool (keyLess a b c d)) ∧ Below w.heap.size w w' := by
  go_enter Tryz.func189, Tryz.ntmps189
  go_wp2
  all_goals (go_ret; refine ⟨ret_bool ?_, (by with_reducible (repeat (first | exact Below.refl _ _ | refine Below.alloc ?_ (by first | (simp; done) | omega | (simp; omega)) _)))⟩; rw [Bool.eq_iff_iff]; simp [keyLess] <;> first | omega | grind)

theorem refLess_any (a b c d : Int) (w : World) : Calls Tryz.prog 177 #[.agg #[.int .i64 a, .int .i64 b], .agg #[.int .i64 c, .int .i64 d]] w fun e w' => e = .returned (.bool (keyLess a b c d)) ∧ Below w.heap.size w w' := by
  go_enter Tryz.func177, Tryz.ntmps177
  go_wp2
  all_goals (go_ret; refine ⟨ret_bool ?_, (by with_reducible (repeat (first | exact Below.refl _ _ | refine Below.alloc ?_ (by first | (simp; done) | omega | (simp; omega)) _)))⟩; rw [Bool.eq_iff_iff]; simp [keyLess] <;> first | omega | grind)
end Go.Proofs.YtibabfedpdoofaaGreatDoor
namespace Go.Proofs.YtibabfedpdoofaaGreatDoor
open Go.RowKit Go.Own

end Go.Proofs.YtibabfedpdoofaaGreatDoor
namespace Go.Proofs.YtibabfedpdoofaaGreatDoor
open Go.RowKit Go.Own

end Go.Proofs.YtibabfedpdoofaaGreatDoor
namespace Go.Proofs.YtibabfedpdoofaaGreatDoor
open Go.RowKit Go.Own

end Go.Proofs.YtibabfedpdoofaaGreatDoor
namespace Go.Proofs.YtibabfedpdoofaaGreatDoor
open Go.RowKit Go.Own

end Go.Proofs.YtibabfedpdoofaaGreatDoor
namespace Go.Proofs.YtibabfedpdoofaaGreatDoor
open Go.RowKit Go.Own

end Go.Proofs.YtibabfedpdoofaaGreatDoor
namespace Go.Proofs.YtibabfedpdoofaaGreatDoor
open Go.RowKit Go.Own

theorem Laid.deep {w W x : World} {B : Nat} (hL : Laid w) (hpos : 2 < w.heap.size) (h : Below w.heap.size w W) (hB : w.heap.size ≤ B) : Laid (Go.Own.later W B x) :=
  hL.below (h.trans ((later_below W B x).mono hB)) hpos
end Go.Proofs.YtibabfedpdoofaaGreatDoor
namespace Go.Proofs.YtibabfedpdoofaaGreatDoor
open Go.RowKit Go.Own

structure RowS where
  o : Int
  d : Int
  code : Int
  amt : Int
  qty : Int
def RowS.cells (r : RowS) : Array Value := #[.int .i64 r.o, .int .i64 r.d, .int .i64 r.code, .int .i64 r.amt, .int .i64 r.qty]
def RowS.v (r : RowS) : Value := .agg #[.int .i64 r.o, .int .i64 r.d, .int .i64 r.code, .int .i64 r.amt, .int .i64 r.qty]
def mayRow (r : RowS) (p : Int) : Bool := keyOk r.o r.d && decide (partyOf r.d = p) && (decide (r.code = 1) || decide (r.code = 2)) &&
  (if r.code = 2 then decide (r.amt = 0) && decide (r.qty = 0)
   else if p = 0 then decide (r.qty = 0) && decide (0 ≤ r.amt) && decide (r.amt ≤ 1099511627776)
   else decide (r.amt = 0) && decide (0 ≤ r.qty) && decide (r.qty ≤ 999))

set_option maxHeartbeats 4000000 in
set_option maxRecDepth 100000 in
theorem rowMay_any (r : RowS) (p : Int) (w : World) (hL : Laid w) : Calls Tryz.prog 188 #[r.v, .int .i64 p] w fun e w' => e = .returned (.bool (mayRow r p)) ∧ Below w.heap.size w w' := by
  obtain ⟨o, d, code, amt, qty⟩ := r
  have HQ : mayRow ⟨o, d, code, amt, qty⟩ p = mayRow ⟨o, d, code, amt, qty⟩ p := rfl
  conv at HQ => rhs; unfold mayRow
  simp only at HQ
  have hK := fun w => keyCheck_any o d w
  have hP := fun w hL => party_any d w hL
  have HL := Lib.hid hL
  have hpos : 2 < w.heap.size := hL.1
  clear hL
  simp only [RowS.v]
  cases hk : keyOk o d
  · rw [hk] at HQ hK
    simp only [Bool.false_and] at HQ
    have HQ := Lib.hid HQ
    clear hk
    go_enter Tryz.func188, Tryz.ntmps188
    go_wp2_with (go_at_call 156; go_must ((with_reducible refine (hK _).mono ?_); rintro e w1 ⟨rfl, hb⟩; obtain ⟨hc, hf⟩ := bcell hb; have hz := hb.size; (try simp at hz); (try have hzT := Nat.lt_of_succ_le hz); have hzA : w.heap.size < w1.heap.size := (by omega); have hzA2 := Nat.le_of_lt hzA))
    go_ret
    exact ⟨by rw [HQ.out]; rfl, (by with_reducible (repeat (first | exact Below.refl _ _ | refine Below.alloc ?_ (by first | (simp; done) | omega | (simp; omega)) _ | refine Below.trans ?_ (Below.mono (by assumption) (by first | (simp; done) | omega | (simp; omega))))))⟩
  · rw [hk] at HQ hK
    clear hk
    generalize partyOf d = q at *
    by_cases ht : q = p
    · subst ht
      simp only [decide_true, Bool.true_and, Bool.and_true] at HQ
      have HQ := Lib.hid HQ
      by_cases hc1 : code = 1
      · subst hc1
        by_cases h0 : q = 0
        · subst h0
          go_enter Tryz.func188, Tryz.ntmps188
          go_wp2_with (first | (go_at_call 156; go_must ((with_reducible refine (hK _).mono ?_); rintro e w1 ⟨rfl, hb⟩; obtain ⟨hc, hf⟩ := bcell hb; have hz := hb.size; (try simp at hz); (try have hzT := Nat.lt_of_succ_le hz); have hzA : w.heap.size < w1.heap.size := (by omega); have hzA2 := Nat.le_of_lt hzA)) | (go_at_call 203; go_must ((with_reducible refine (hP _ (by exact HL.out.below (by with_reducible (repeat (first | exact Below.refl _ _ | refine Below.alloc ?_ (by first | (simp; done) | omega | (simp; omega)) _ | refine Below.trans ?_ (Below.mono (by assumption) (by first | (simp; done) | omega | (simp; omega)))))) hpos)).mono ?_); rintro e w1 ⟨rfl, hb⟩; obtain ⟨hc, hf⟩ := bcell hb; have hz := hb.size; (try simp at hz); (try have hzT := Nat.lt_of_succ_le hz); have hzA : w.heap.size < w1.heap.size := (by omega); have hzA2 := Nat.le_of_lt hzA)))
          all_goals go_ret
          all_goals refine ⟨ret_bool ?_, (by with_reducible (repeat (first | exact Below.refl _ _ | refine Below.alloc ?_ (by first | (simp; done) | omega | (simp; omega)) _ | refine Below.trans ?_ (Below.mono (by assumption) (by first | (simp; done) | omega | (simp; omega))))))⟩
          all_goals (have hq := HQ.out; clear HQ HL hK hP hc hf; first | (simp_all; done) | (simp_all; omega) | (rw [hq, Bool.eq_iff_iff]; simp [*] <;> omega) | (rw [hq, Bool.eq_iff_iff]; simp; grind))
        · have h0b : (q == 0) = false := by simpa using h0
          go_enter Tryz.func188, Tryz.ntmps188
          go_wp2_with (first | (go_at_call 156; go_must ((with_reducible refine (hK _).mono ?_); rintro e w1 ⟨rfl, hb⟩; obtain ⟨hc, hf⟩ := bcell hb; have hz := hb.size; (try simp at hz); (try have hzT := Nat.lt_of_succ_le hz); have hzA : w.heap.size < w1.heap.size := (by omega); have hzA2 := Nat.le_of_lt hzA)) | (go_at_call 203; go_must ((with_reducible refine (hP _ (by exact HL.out.below (by with_reducible (repeat (first | exact Below.refl _ _ | refine Below.alloc ?_ (by first | (simp; done) | omega | (simp; omega)) _ | refine Below.trans ?_ (Below.mono (by assumption) (by first | (simp; done) | omega | (simp; omega)))))) hpos)).mono ?_); rintro e w1 ⟨rfl, hb⟩; obtain ⟨hc, hf⟩ := bcell hb; have hz := hb.size; (try simp at hz); (try have hzT := Nat.lt_of_succ_le hz); have hzA : w.heap.size < w1.heap.size := (by omega); have hzA2 := Nat.le_of_lt hzA)))
          all_goals go_ret
          all_goals refine ⟨ret_bool ?_, (by with_reducible (repeat (first | exact Below.refl _ _ | refine Below.alloc ?_ (by first | (simp; done) | omega | (simp; omega)) _ | refine Below.trans ?_ (Below.mono (by assumption) (by first | (simp; done) | omega | (simp; omega))))))⟩
          all_goals (have hq := HQ.out; clear HQ HL hK hP hc hf; first | (simp_all; done) | (simp_all; omega) | (rw [hq, Bool.eq_iff_iff]; simp [*] <;> omega) | (rw [hq, Bool.eq_iff_iff]; simp; grind))
      · have hc1b : (code == 1) = false := by simpa using hc1
        have hc1n : (code != 1) = true := by simpa using hc1
        by_cases hc2 : code = 2
        · subst hc2
          go_enter Tryz.func188, Tryz.ntmps188
          go_wp2_with (first | (go_at_call 156; go_must ((with_reducible refine (hK _).mono ?_); rintro e w1 ⟨rfl, hb⟩; obtain ⟨hc, hf⟩ := bcell hb; have hz := hb.size; (try simp at hz); (try have hzT := Nat.lt_of_succ_le hz); have hzA : w.heap.size < w1.heap.size := (by omega); have hzA2 := Nat.le_of_lt hzA)) | (go_at_call 203; go_must ((with_reducible refine (hP _ (by exact HL.out.below (by with_reducible (repeat (first | exact Below.refl _ _ | refine Below.alloc ?_ (by first | (simp; done) | omega | (simp; omega)) _ | refine Below.trans ?_ (Below.mono (by assumption) (by first | (simp; done) | omega | (simp; omega)))))) hpos)).mono ?_); rintro e w1 ⟨rfl, hb⟩; obtain ⟨hc, hf⟩ := bcell hb; have hz := hb.size; (try simp at hz); (try have hzT := Nat.lt_of_succ_le hz); have hzA : w.heap.size < w1.heap.size := (by omega); have hzA2 := Nat.le_of_lt hzA)))
          all_goals go_ret
          all_goals refine ⟨ret_bool ?_, (by with_reducible (repeat (first | exact Below.refl _ _ | refine Below.alloc ?_ (by first | (simp; done) | omega | (simp; omega)) _ | refine Below.trans ?_ (Below.mono (by assumption) (by first | (simp; done) | omega | (simp; omega))))))⟩
          all_goals (have hq := HQ.out; clear HQ HL hK hP hc hf; first | (simp_all; done) | (simp_all; omega) | (rw [hq, Bool.eq_iff_iff]; simp [*] <;> omega) | (rw [hq, Bool.eq_iff_iff]; simp; grind))
        · have hc2b : (code == 2) = false := by simpa using hc2
          have hc2n : (code != 2) = true := by simpa using hc2
          have HZ := Lib.hid (HQ.out.trans (show _ = false by simp [hc1, hc2]))
          clear HQ
          go_enter Tryz.func188, Tryz.ntmps188
          go_wp2_with (first | (go_at_call 156; go_must ((with_reducible refine (hK _).mono ?_); rintro e w1 ⟨rfl, hb⟩; obtain ⟨hc, hf⟩ := bcell hb; have hz := hb.size; (try simp at hz); (try have hzT := Nat.lt_of_succ_le hz); have hzA : w.heap.size < w1.heap.size := (by omega); have hzA2 := Nat.le_of_lt hzA)) | (go_at_call 203; go_must ((with_reducible refine (hP _ (by exact HL.out.below (by with_reducible (repeat (first | exact Below.refl _ _ | refine Below.alloc ?_ (by first | (simp; done) | omega | (simp; omega)) _ | refine Below.trans ?_ (Below.mono (by assumption) (by first | (simp; done) | omega | (simp; omega)))))) hpos)).mono ?_); rintro e w1 ⟨rfl, hb⟩; obtain ⟨hc, hf⟩ := bcell hb; have hz := hb.size; (try simp at hz); (try have hzT := Nat.lt_of_succ_le hz); have hzA : w.heap.size < w1.heap.size := (by omega); have hzA2 := Nat.le_of_lt hzA)))
          go_ret
          exact ⟨by rw [HZ.out]; rfl, (by with_reducible (repeat (first | exact Below.refl _ _ | refine Below.alloc ?_ (by first | (simp; done) | omega | (simp; omega)) _ | refine Below.trans ?_ (Below.mono (by assumption) (by first | (simp; done) | omega | (simp; omega))))))⟩
    · have htb : (q == p) = false := by simpa using ht
      have htn : (q != p) = true := by simpa using ht
      rw [decide_eq_false ht] at HQ
      simp only [Bool.and_false, Bool.false_and] at HQ
      have HQ := Lib.hid HQ
      clear ht
      go_enter Tryz.func188, Tryz.ntmps188
      go_wp2_with (first | (go_at_call 156; go_must ((with_reducible refine (hK _).mono ?_); rintro e w1 ⟨rfl, hb⟩; obtain ⟨hc, hf⟩ := bcell hb; have hz := hb.size; (try simp at hz); (try have hzT := Nat.lt_of_succ_le hz); have hzA : w.heap.size < w1.heap.size := (by omega); have hzA2 := Nat.le_of_lt hzA)) | (go_at_call 203; go_must ((with_reducible refine (hP _ (by exact HL.out.below (by with_reducible (repeat (first | exact Below.refl _ _ | refine Below.alloc ?_ (by first | (simp; done) | omega | (simp; omega)) _ | refine Below.trans ?_ (Below.mono (by assumption) (by first | (simp; done) | omega | (simp; omega)))))) hpos)).mono ?_); rintro e w1 ⟨rfl, hb⟩; obtain ⟨hc, hf⟩ := bcell hb; have hz := hb.size; (try simp at hz); (try have hzT := Nat.lt_of_succ_le hz); have hzA : w.heap.size < w1.heap.size := (by omega); have hzA2 := Nat.le_of_lt hzA)))
      go_ret
      exact ⟨by rw [HQ.out]; rfl, (by with_reducible (repeat (first | exact Below.refl _ _ | refine Below.alloc ?_ (by first | (simp; done) | omega | (simp; omega)) _ | refine Below.trans ?_ (Below.mono (by assumption) (by first | (simp; done) | omega | (simp; omega))))))⟩
end Go.Proofs.YtibabfedpdoofaaGreatDoor
namespace Go.Proofs.YtibabfedpdoofaaGreatDoor
open Go.RowKit Go.Own

/-- Rows lie in memory, one behind the other, from a on. -/
structure RowsAt (w : World) (a : Addr) (rs : List RowS) : Prop where
  lt : a.block < w.heap.size
  c0 : ∀ i (h : i < rs.length), w.cell? (a.add (i * 5)) = some (.int .i64 rs[i].o)
  c1 : ∀ i (h : i < rs.length), w.cell? ⟨(a.add (i * 5)).block, (a.add (i * 5)).off + 1, none⟩ = some (.int .i64 rs[i].d)
  c2 : ∀ i (h : i < rs.length), w.cell? ⟨(a.add (i * 5)).block, (a.add (i * 5)).off + 2, none⟩ = some (.int .i64 rs[i].code)
  c3 : ∀ i (h : i < rs.length), w.cell? ⟨(a.add (i * 5)).block, (a.add (i * 5)).off + 3, none⟩ = some (.int .i64 rs[i].amt)
  c4 : ∀ i (h : i < rs.length), w.cell? ⟨(a.add (i * 5)).block, (a.add (i * 5)).off + 4, none⟩ = some (.int .i64 rs[i].qty)
theorem add_block (a : Addr) (n : Nat) : (a.add n).block = a.block := by unfold Addr.add; split <;> rfl
theorem RowsAt.below {B : Nat} {w w' : World} {a : Addr} {rs : List RowS} (h : RowsAt w a rs) (hb : Below B w w') (hB : a.block < B) : RowsAt w' a rs := by
  have e : ∀ c : Addr, c.block = a.block → w'.cell? c = w.cell? c := fun c hc => World.cell?_of_block (w := w) (a := c) (hb.block _ (by rw [hc]; exact hB))
  have e2 : ∀ i k, w'.cell? ⟨(a.add (i * 5)).block, (a.add (i * 5)).off + k, none⟩ = w.cell? ⟨(a.add (i * 5)).block, (a.add (i * 5)).off + k, none⟩ := fun i k => e _ (add_block a (i * 5))
  have hs := hb.size
  obtain ⟨h0, h1, h2, h3, h4, h5⟩ := h
  exact ⟨by omega, fun i hi => (e _ (add_block _ _)).trans (h1 i hi), fun i hi => (e2 i 1).trans (h2 i hi), fun i hi => (e2 i 2).trans (h3 i hi), fun i hi => (e2 i 3).trans (h4 i hi), fun i hi => (e2 i 4).trans (h5 i hi)⟩

@[go_sem] theorem later_cell_any (W : World) (B : Nat) (x : World) (c : Addr) (h : c.block < B) : (later W B x).cell? c = W.cell? c := (later_below W B x).cell (p := c) h
@[go_sem] theorem alloc_cell_any (w : World) (o : Obj) (c : Addr) (h : c.block < w.heap.size) : (w.alloc o).cell? c = w.cell? c := ((Below.refl w.heap.size w).alloc (Nat.le_refl _) o).cell (p := c) h

def rowOkAt (rs : List RowS) (p : Int) (i : Nat) : Bool := match rs[i]? with
  | some r => mayRow r p && (decide (i = 0) || match rs[i - 1]? with
    | some q => keyLess q.o q.d r.o r.d
    | none => true)
  | none => true
def chkRows (rs : List RowS) (p : Int) : Bool := decide (0 ≤ p) && decide (p ≤ 2) && decide (rs.length ≤ 400) && (List.range rs.length).all (rowOkAt rs p)

theorem RowsAt.lt' {w : World} {a : Addr} {rs : List RowS} (h : RowsAt w a rs) (n : Nat) : (a.add n).block < w.heap.size := by rw [add_block]; exact h.lt
theorem chkRows_no {rs : List RowS} {p : Int} {i : Nat} (h : i < rs.length) (hf : rowOkAt rs p i = false) : chkRows rs p = false := by
  have : (List.range rs.length).all (rowOkAt rs p) = false := by
    rw [List.all_eq_false]
    exact ⟨i, by simpa using h, by simp [hf]⟩
  simp [chkRows, this]

set_option maxHeartbeats 4000000 in
set_option maxRecDepth 100000 in
theorem rowsCheck_some (rs : List RowS) (a : Addr) (cap : Nat) (p : Int) (w : World) (_hlen : rs.length ≤ cap) (_hcap : cap ≤ maxLen) (hR : RowsAt w a rs) (hL : Laid w) :
    Calls Tryz.prog 175 #[.slice (some a) rs.length cap, .int .i64 p] w fun e w' => e = .returned (.bool (chkRows rs p)) ∧ Below w.heap.size w w' := by
  have HR := Lib.hid hR
  have HL := Lib.hid hL
  have hpos : 2 < w.heap.size := hL.1
  have hlt := hR.lt
  clear hL hR
  by_cases hp : 0 ≤ p ∧ p ≤ 2 ∧ rs.length ≤ 400
  · obtain ⟨hp0, hp2, hl⟩ := hp
    have hl1 : (rs.length : Int) ≤ 400 := by omega
    go_enter Tryz.func175, Tryz.ntmps175
    go_wp2_with fail
    go_loopw [5, 6, 20] (fun _ _ k wr => ∃ j : Nat, j ≤ rs.length ∧ k = .int .i64 (j : Int) ∧ Below w.heap.size w wr ∧ ∀ i, i < j → rowOkAt rs p i = true) (fun _ _ k _ => (rs.length - (intOf k).toNat))
    case atStart => exact ⟨0, by omega, rfl, Below.refl _ _, by omega⟩
    case round =>
      obtain ⟨j, hj, rfl, hbr, hok⟩ := hrel
      by_cases hjl : j = rs.length
      · subst hjl
        go_wp2_with fail
        go_ret
        refine ⟨ret_bool ?_, hbr⟩
        simp [chkRows, hp0, hp2, hl]
        exact fun i hi => hok i hi
      · have hj1 : j < rs.length := by omega
        have hj2 : (j : Int) < (rs.length : Int) := by omega
        have hRr := HR.out.below hbr hlt
        have c0 := hRr.c0 j hj1
        have c1 := hRr.c1 j hj1
        have c2 := hRr.c2 j hj1
        have c3 := hRr.c3 j hj1
        have c4 := hRr.c4 j hj1
        have hb0 : (a.add (j * 5)).block < wr.heap.size := hRr.lt' _
        have hM := fun w h => rowMay_any rs[j] p w h
        have hg : rs[j]? = some rs[j] := List.getElem?_eq_getElem hj1
        simp only [RowS.v] at hM
        have hzr := hbr.size
        cases hm : mayRow rs[j] p
        · rw [hm] at hM
          have HQ := Lib.hid (show chkRows rs p = false from chkRows_no (i := j) hj1 (by simp [rowOkAt, hg, hm]))
          go_wp2_with fail
          refine region_later (by kernel_rfl) (by kernel_rfl) ?_
          repeat (go_big_quiet_step ((go_at_call 188; (with_reducible exact calls_later (by first | exact Nat.le_refl _ | (simp; done)) (hM _ (HL.out.deep hpos (by with_reducible (repeat (first | assumption | refine Below.alloc ?_ (by first | (simp; done) | omega | (simp; omega)) _))) (by first | omega | (simp; omega))))))))
          refine wpQuiet_nil ?_
          intro w1 hb
          obtain ⟨hc, hf⟩ := bcell hb
          go_wp2_with fail
          go_ret
          exact ⟨by rw [HQ.out]; rfl, (by with_reducible (repeat (first | assumption | refine Below.alloc ?_ (by first | (simp; done) | omega | (simp; omega)) _ | refine Below.trans ?_ (Below.mono (by assumption) (by first | (simp; done) | omega | (simp; omega))))))⟩
        · rw [hm] at hM
          by_cases hj0 : j = 0
          · have hji : ¬ 0 < j := by omega
            have hok2 : ∀ k, k < j + 1 → rowOkAt rs p k = true := by
              intro k hk
              obtain rfl : k = j := by omega
              simp only [rowOkAt, hg, hm, Bool.true_and, Bool.or_eq_true, decide_eq_true_eq]
              exact .inl hj0
            clear hj0
            go_wp2_with fail
            refine region_later (by kernel_rfl) (by kernel_rfl) ?_
            repeat (go_big_quiet_step ((go_at_call 188; (with_reducible exact calls_later (by first | exact Nat.le_refl _ | (simp; done)) (hM _ (HL.out.deep hpos (by with_reducible (repeat (first | assumption | refine Below.alloc ?_ (by first | (simp; done) | omega | (simp; omega)) _))) (by first | omega | (simp; omega))))))))
            refine wpQuiet_nil ?_
            intro w1 hb
            obtain ⟨hc, hf⟩ := bcell hb
            go_wp2_with fail
            go_roundw
            case rel => exact ⟨j + 1, by omega, by go_num, (by with_reducible (repeat (first | assumption | refine Below.alloc ?_ (by first | (simp; done) | omega | (simp; omega)) _ | refine Below.trans ?_ (Below.mono (by assumption) (by first | (simp; done) | omega | (simp; omega)))))), hok2⟩
            case measure => simp [intOf] <;> omega
          · obtain ⟨i, rfl⟩ : ∃ i, j = i + 1 := ⟨j - 1, by omega⟩
            have hi1 : i < rs.length := by omega
            have d0 := hRr.c0 i hi1
            have d1 := hRr.c1 i hi1
            have hb1 : (a.add (i * 5)).block < wr.heap.size := hRr.lt' _
            have hb2 : (a.add (i * 5)).block < wr.heap.size + 1 := by omega
            have hb3 : (a.add (i * 5)).block ≠ wr.heap.size := by omega
            have hb4 : wr.heap.size ≠ (a.add (i * 5)).block := by omega
            have hK := fun w => less_any rs[i].o rs[i].d rs[i + 1].o rs[i + 1].d w
            have hgi : rs[i]? = some rs[i] := List.getElem?_eq_getElem hi1
            have hj3 : (((i + 1 : Nat)) : Int) - 1 = (i : Int) := by omega
            have hi3 : (i : Int) < (rs.length : Int) := by omega
            have hi4 : (0 : Int) < ((i + 1 : Nat) : Int) := by omega
            cases hk : keyLess rs[i].o rs[i].d rs[i + 1].o rs[i + 1].d
            · rw [hk] at hK
              have HQ := Lib.hid (show chkRows rs p = false from chkRows_no (i := i + 1) hj1 (by simp [rowOkAt, hg, hm, hgi, hk]))
              go_wp2_with fail
              refine region_later (by kernel_rfl) (by kernel_rfl) ?_
              repeat (go_big_quiet_step ((first | (go_at_call 188; (with_reducible exact calls_later (by first | exact Nat.le_refl _ | (simp; done)) (hM _ (HL.out.deep hpos (by with_reducible (repeat (first | assumption | refine Below.alloc ?_ (by first | (simp; done) | omega | (simp; omega)) _))) (by first | omega | (simp; omega)))))) | (go_at_call 189; (with_reducible exact calls_later (by first | exact Nat.le_refl _ | (simp; done)) (hK _))))))
              refine wpQuiet_nil ?_
              intro w1 hb
              obtain ⟨hc, hf⟩ := bcell hb
              go_wp2_with fail
              go_ret
              exact ⟨by rw [HQ.out]; rfl, (by with_reducible (repeat (first | assumption | refine Below.alloc ?_ (by first | (simp; done) | omega | (simp; omega)) _ | refine Below.trans ?_ (Below.mono (by assumption) (by first | (simp; done) | omega | (simp; omega))))))⟩
            · rw [hk] at hK
              have hok2 : ∀ k, k < i + 2 → rowOkAt rs p k = true := by
                intro k hk2
                rcases Nat.lt_or_ge k (i + 1) with h | h
                · exact hok k h
                · obtain rfl : k = i + 1 := by omega
                  simp [rowOkAt, hg, hm, hgi, hk]
              go_wp2_with fail
              refine region_later (by kernel_rfl) (by kernel_rfl) ?_
              repeat (go_big_quiet_step ((first | (go_at_call 188; (with_reducible exact calls_later (by first | exact Nat.le_refl _ | (simp; done)) (hM _ (HL.out.deep hpos (by with_reducible (repeat (first | assumption | refine Below.alloc ?_ (by first | (simp; done) | omega | (simp; omega)) _))) (by first | omega | (simp; omega)))))) | (go_at_call 189; (with_reducible exact calls_later (by first | exact Nat.le_refl _ | (simp; done)) (hK _))))))
              refine wpQuiet_nil ?_
              intro w1 hb
              obtain ⟨hc, hf⟩ := bcell hb
              go_wp2_with fail
              go_roundw
              case rel => exact ⟨i + 2, by omega, by go_num, (by with_reducible (repeat (first | assumption | refine Below.alloc ?_ (by first | (simp; done) | omega | (simp; omega)) _ | refine Below.trans ?_ (Below.mono (by assumption) (by first | (simp; done) | omega | (simp; omega)))))), hok2⟩
              case measure => simp [intOf] <;> omega
  · have hQ : chkRows rs p = false := by simp only [chkRows]; simp; omega
    have HQ := Lib.hid hQ
    clear hQ
    by_cases h0 : p < 0
    · go_enter Tryz.func175, Tryz.ntmps175
      go_wp2_with fail
      go_ret
      exact ⟨by rw [HQ.out]; rfl, (by with_reducible (repeat (exact Below.refl _ _)))⟩
    · by_cases h2 : 2 < p
      · go_enter Tryz.func175, Tryz.ntmps175
        go_wp2_with fail
        go_ret
        exact ⟨by rw [HQ.out]; rfl, (by with_reducible (repeat (exact Below.refl _ _)))⟩
      · have h4 : (400 : Int) < (rs.length : Int) := by omega
        go_enter Tryz.func175, Tryz.ntmps175
        go_wp2_with fail
        go_ret
        exact ⟨by rw [HQ.out]; rfl, (by with_reducible (repeat (exact Below.refl _ _)))⟩

set_option maxHeartbeats 1000000 in
theorem rowsCheck_nil (sp : Option Addr) (sc : Nat) (p : Int) (w : World) : Calls Tryz.prog 175 #[.slice sp 0 sc, .int .i64 p] w fun e w' => e = .returned (.bool (chkRows [] p)) ∧ Below w.heap.size w w' := by
  by_cases h0 : p < 0
  · go_enter Tryz.func175, Tryz.ntmps175
    go_wp2_with fail
    go_ret
    exact ⟨ret_bool (by simp [chkRows]; omega), (by with_reducible (repeat (exact Below.refl _ _)))⟩
  · by_cases h2 : 2 < p
    · go_enter Tryz.func175, Tryz.ntmps175
      go_wp2_with fail
      go_ret
      exact ⟨ret_bool (by simp [chkRows]; omega), (by with_reducible (repeat (exact Below.refl _ _)))⟩
    · go_enter Tryz.func175, Tryz.ntmps175
      go_wp2_with fail
      go_loopw [5, 6, 20] (fun _ _ k wr => k = .int .i64 0 ∧ Below w.heap.size w wr) (fun _ _ k _ => 0)
      case atStart => exact ⟨rfl, Below.refl _ _⟩
      case round =>
        obtain ⟨rfl, hbr⟩ := hrel
        go_wp2_with fail
        go_ret
        exact ⟨ret_bool (by simp [chkRows]; omega), hbr⟩
end Go.Proofs.YtibabfedpdoofaaGreatDoor
namespace Go.Proofs.YtibabfedpdoofaaGreatDoor
open Go.RowKit Go.Own

theorem bcell_any {B : Nat} {w w' : World} (h : Below B w w') : ∀ c : Addr, c.block < B → w'.cell? c = w.cell? c := fun c hc => h.cell (p := c) hc
theorem refLess_fun (q r : RowS) : ∀ w, Calls Tryz.prog 177 #[.agg #[.int .i64 q.o, .int .i64 q.d], .agg #[.int .i64 r.o, .int .i64 r.d]] w fun e w' => e = .returned (.bool (keyLess q.o q.d r.o r.d)) ∧ Below w.heap.size w w' :=
  fun w => refLess_any q.o q.d r.o r.d w
theorem rowOkAt_may {rs : List RowS} {p : Int} {j : Nat} (h : j < rs.length) (hf : mayRow rs[j] p = false) : rowOkAt rs p j = false := by
  simp [rowOkAt, List.getElem?_eq_getElem h, hf]
theorem rowOkAt_less {rs : List RowS} {p : Int} {j : Nat} (h : j + 1 < rs.length) (hf : keyLess rs[j].o rs[j].d rs[j + 1].o rs[j + 1].d = false) : rowOkAt rs p (j + 1) = false := by
  have h2 : j < rs.length := by omega
  simp [rowOkAt, List.getElem?_eq_getElem h, List.getElem?_eq_getElem h2, hf]
theorem rowOkAt_ok {rs : List RowS} {p : Int} {j : Nat} (h : j < rs.length) (hf : mayRow rs[j] p = true) (hl : ∀ i, j = i + 1 → ∀ (hi : i < rs.length), keyLess rs[i].o rs[i].d rs[j].o rs[j].d = true) : rowOkAt rs p j = true := by
  rcases j with _ | i
  · simp [rowOkAt, List.getElem?_eq_getElem h, hf]
  · have h2 : i < rs.length := by omega
    simp [rowOkAt, List.getElem?_eq_getElem h, List.getElem?_eq_getElem h2, hf, hl i rfl h2]

set_option maxHeartbeats 8000000 in
set_option maxRecDepth 100000 in
theorem rowsRef_some (rs : List RowS) (a : Addr) (cap : Nat) (p : Int) (w : World) (_hlen : rs.length ≤ cap) (_hcap : cap ≤ maxLen) (hR : RowsAt w a rs) :
    Calls Tryz.prog 163 #[.slice (some a) rs.length cap, .int .i64 p] w fun e w' => e = .returned (.bool (chkRows rs p)) ∧ Below w.heap.size w w' := by
  have HR := Lib.hid hR
  have hpos : 0 < w.heap.size := by have := hR.lt; omega
  have hlt := hR.lt
  clear hR
  by_cases hp : 0 ≤ p ∧ p ≤ 2 ∧ rs.length ≤ 400
  · obtain ⟨hp0, hp2, hl⟩ := hp
    have hl1 : (rs.length : Int) ≤ 400 := by omega
    go_enter Tryz.func163, Tryz.ntmps163
    go_wp2_with fail
    go_loopw [5, 6] (fun k _ wr => ∃ j : Nat, j ≤ rs.length ∧ k = .int .i64 (j : Int) ∧ Below w.heap.size w wr ∧ ∀ i, i < j → rowOkAt rs p i = true) (fun k _ _ => (rs.length - (intOf k).toNat))
    case atStart => exact ⟨0, by omega, rfl, Below.refl _ _, by omega⟩
    case round =>
      obtain ⟨j, hj, rfl, hbr, hok⟩ := hrel
      by_cases hjl : j = rs.length
      · subst hjl
        go_wp2_with fail
        go_ret
        refine ⟨ret_bool ?_, hbr⟩
        simp [chkRows, hp0, hp2, hl]
        exact fun i hi => hok i hi
      · have hj1 : j < rs.length := by omega
        have hj2 : (j : Int) < (rs.length : Int) := by omega
        have hRr := HR.out.below hbr hlt
        have c0 := hRr.c0 j hj1
        have c1 := hRr.c1 j hj1
        have c2 := hRr.c2 j hj1
        have c3 := hRr.c3 j hj1
        have c4 := hRr.c4 j hj1
        have hb0 : (a.add (j * 5)).block < wr.heap.size := hRr.lt' _
        have hzr := hbr.size
        have HM := Lib.hid (show mayRow rs[j] p = mayRow ⟨rs[j].o, rs[j].d, rs[j].code, rs[j].amt, rs[j].qty⟩ p from rfl)
        have HNO := Lib.hid (fun (h : mayRow rs[j] p = false) => chkRows_no (p := p) hj1 (rowOkAt_may hj1 h))
        have HOK := Lib.hid (fun (h : mayRow rs[j] p = true) h2 => rowOkAt_ok (p := p) hj1 h h2)
        have HL := Lib.hid (fun i (e : j = i + 1) (h : keyLess (rs[i]'(by omega)).o (rs[i]'(by omega)).d rs[j].o rs[j].d = false) => chkRows_no (p := p) hj1 (by subst e; exact rowOkAt_less hj1 h))
        have HI := Lib.hid (fun i (e : j = i + 1) => (⟨hRr.c0 i (by omega), hRr.c1 i (by omega)⟩ : _ ∧ _))
        have hK := fun w => refKeyCheck_any rs[j].o rs[j].d w
        have hP := fun w => refParty_any rs[j].d w
        have HZ := Lib.hid (fun i (hi : i < rs.length) => refLess_fun rs[i] rs[j])
        have HB := Lib.hid hRr.lt'
        clear hRr
        generalize rs[j] = r at *
        obtain ⟨o, d, code, amt, qty⟩ := r
        simp only at c0 c1 c2 c3 c4 hK hP
        cases hk : keyOk o d
        · rw [hk] at hK
          have HQ := Lib.hid (HNO.out (by rw [HM.out]; simp [mayRow, hk]))
          go_wp2_with ((go_at_call 161; go_must ((with_reducible refine (hK _).mono ?_); rintro e w1 ⟨rfl, hb⟩; obtain ⟨hc, hf⟩ := bcell hb; have hz := hb.size; (try simp at hz); (try have hzT := Nat.lt_of_succ_le hz); have hcA := bcell_any hb; (try (have hbA : (a.add (i * 5)).block < w1.heap.size := by omega)))))
          go_ret
          exact ⟨by rw [HQ.out]; rfl, (by with_reducible (repeat (first | assumption | refine Below.alloc ?_ (by first | (simp; done) | omega | (simp; omega)) _ | refine Below.trans ?_ (Below.mono (by assumption) (by first | (simp; done) | omega | (simp; omega))))))⟩
        · rw [hk] at hK
          by_cases hq : partyOf d = p
          rotate_left
          · have HQ := Lib.hid (HNO.out (by rw [HM.out]; simp [mayRow, hq]))
            generalize partyOf d = q at *
            have hqb : (q == p) = false := by simpa using hq
            have hqn : (q != p) = true := by simpa using hq
            clear hq
            go_wp2_with (first | (go_at_call 161; go_must ((with_reducible refine (hK _).mono ?_); rintro e w1 ⟨rfl, hb⟩; obtain ⟨hc, hf⟩ := bcell hb; have hz := hb.size; (try simp at hz); (try have hzT := Nat.lt_of_succ_le hz); have hcA := bcell_any hb; (try (have hbA : (a.add (i * 5)).block < w1.heap.size := by omega)))) | (go_at_call 164; go_must ((with_reducible refine (hP _).mono ?_); rintro e w1 ⟨rfl, hb⟩; obtain ⟨hc, hf⟩ := bcell hb; have hz := hb.size; (try simp at hz); (try have hzT := Nat.lt_of_succ_le hz); have hcA := bcell_any hb; (try (have hbA : (a.add (i * 5)).block < w1.heap.size := by omega)))))
            go_ret
            exact ⟨by rw [HQ.out]; rfl, (by with_reducible (repeat (first | assumption | refine Below.alloc ?_ (by first | (simp; done) | omega | (simp; omega)) _ | refine Below.trans ?_ (Below.mono (by assumption) (by first | (simp; done) | omega | (simp; omega))))))⟩
          rw [hq] at hP
          by_cases hc : code = 1 ∨ code = 2
          rotate_left
          · have HQ := Lib.hid (HNO.out (by rw [HM.out]; simp [mayRow]; omega))
            by_cases hc1 : code < 1
            · go_wp2_with (first | (go_at_call 161; go_must ((with_reducible refine (hK _).mono ?_); rintro e w1 ⟨rfl, hb⟩; obtain ⟨hc, hf⟩ := bcell hb; have hz := hb.size; (try simp at hz); (try have hzT := Nat.lt_of_succ_le hz); have hcA := bcell_any hb; (try (have hbA : (a.add (i * 5)).block < w1.heap.size := by omega)))) | (go_at_call 164; go_must ((with_reducible refine (hP _).mono ?_); rintro e w1 ⟨rfl, hb⟩; obtain ⟨hc, hf⟩ := bcell hb; have hz := hb.size; (try simp at hz); (try have hzT := Nat.lt_of_succ_le hz); have hcA := bcell_any hb; (try (have hbA : (a.add (i * 5)).block < w1.heap.size := by omega)))))
              go_ret
              exact ⟨by rw [HQ.out]; rfl, (by with_reducible (repeat (first | assumption | refine Below.alloc ?_ (by first | (simp; done) | omega | (simp; omega)) _ | refine Below.trans ?_ (Below.mono (by assumption) (by first | (simp; done) | omega | (simp; omega))))))⟩
              
            · have hc2 : 2 < code := by omega
              go_wp2_with (first | (go_at_call 161; go_must ((with_reducible refine (hK _).mono ?_); rintro e w1 ⟨rfl, hb⟩; obtain ⟨hc, hf⟩ := bcell hb; have hz := hb.size; (try simp at hz); (try have hzT := Nat.lt_of_succ_le hz); have hcA := bcell_any hb; (try (have hbA : (a.add (i * 5)).block < w1.heap.size := by omega)))) | (go_at_call 164; go_must ((with_reducible refine (hP _).mono ?_); rintro e w1 ⟨rfl, hb⟩; obtain ⟨hc, hf⟩ := bcell hb; have hz := hb.size; (try simp at hz); (try have hzT := Nat.lt_of_succ_le hz); have hcA := bcell_any hb; (try (have hbA : (a.add (i * 5)).block < w1.heap.size := by omega)))))
              go_ret
              exact ⟨by rw [HQ.out]; rfl, (by with_reducible (repeat (first | assumption | refine Below.alloc ?_ (by first | (simp; done) | omega | (simp; omega)) _ | refine Below.trans ?_ (Below.mono (by assumption) (by first | (simp; done) | omega | (simp; omega))))))⟩
              
          have hc1 : ¬ code < 1 := by omega
          have hc2 : ¬ 2 < code := by omega
          by_cases hlf : ∃ i, ∃ e : j = i + 1, keyLess (rs[i]'(by omega)).o (rs[i]'(by omega)).d o d = false
          · obtain ⟨i, e, hf⟩ := hlf
            have HQ := Lib.hid (HL.out i e hf)
            obtain ⟨d0, d1⟩ := HI.out i e
            have hb1 := HB.out (i * 5)
            have hb2 : (a.add (i * 5)).block < wr.heap.size + 1 := by omega
            have hb3 : (a.add (i * 5)).block ≤ wr.heap.size := by omega
            have hb4 : (a.add (i * 5)).block ≠ wr.heap.size := by omega
            have hK2 := HZ.out i (by omega)
            subst e
            simp only at hK2
            rw [hf] at hK2
            have hj3 : (((i + 1 : Nat)) : Int) - 1 = (i : Int) := by omega
            have hi3 : (i : Int) < (rs.length : Int) := by omega
            have hi4 : (0 : Int) < ((i + 1 : Nat) : Int) := by omega
            go_wp2_with (first | (go_at_call 161; go_must ((with_reducible refine (hK _).mono ?_); rintro e w1 ⟨rfl, hb⟩; obtain ⟨hc, hf⟩ := bcell hb; have hz := hb.size; (try simp at hz); (try have hzT := Nat.lt_of_succ_le hz); have hcA := bcell_any hb; (try (have hbA : (a.add (i * 5)).block < w1.heap.size := by omega)))) | (go_at_call 164; go_must ((with_reducible refine (hP _).mono ?_); rintro e w1 ⟨rfl, hb⟩; obtain ⟨hc, hf⟩ := bcell hb; have hz := hb.size; (try simp at hz); (try have hzT := Nat.lt_of_succ_le hz); have hcA := bcell_any hb; (try (have hbA : (a.add (i * 5)).block < w1.heap.size := by omega)))))
            have hz0 := hb.size
            have hzp : wr.heap.size < w1.heap.size := (by first | omega | (simp at hz0; omega))
            refine region_later (by kernel_rfl) (by kernel_rfl) ?_
            repeat (go_big_quiet_step ((go_at_call 177; (with_reducible exact calls_later (by first | exact Nat.le_refl _ | (simp; done)) (hK2 _)))))
            refine wpQuiet_nil ?_
            intro w1 hb
            obtain ⟨hc, hf⟩ := bcell hb
            have hcA := bcell_any hb
            have hz2 := hb.size
            have hzq : wr.heap.size < w1.heap.size := (by first | omega | (simp at hz2; omega))
            go_wp2_with fail
            go_ret
            exact ⟨by rw [HQ.out]; rfl, (by with_reducible (repeat (first | assumption | refine Below.alloc ?_ (by first | (simp; done) | omega | (simp; omega)) _ | refine Below.trans ?_ (Below.mono (by assumption) (by first | (simp; done) | omega | (simp; omega))))))⟩
          by_cases h2 : code = 2
          · have HX := Lib.hid (HM.out.trans (show _ = (decide (amt = 0) && decide (qty = 0)) by simp [mayRow, hk, hq, h2]))
            have h2b : (code == 2) = true := by simpa using h2
            by_cases hj0 : j = 0
            · have hji : ¬ 0 < j := by omega
              have HLT := Lib.hid (show ∀ i, j = i + 1 → ∀ (hi : i < rs.length), keyLess rs[i].o rs[i].d o d = true from fun i e => by omega)
              clear hj0
              have HK2 := Lib.hid (show mayRow ⟨o, d, code, amt, qty⟩ p = true → ∀ k, k < j + 1 → rowOkAt rs p k = true from fun h k hk2 => by
                rcases Nat.lt_or_ge k j with h3 | h3
                · exact hok k h3
                · obtain rfl : k = j := by omega
                  exact HOK.out h HLT.out)
              go_wp2_with (first | (go_at_call 161; go_must ((with_reducible refine (hK _).mono ?_); rintro e w1 ⟨rfl, hb⟩; obtain ⟨hc, hf⟩ := bcell hb; have hz := hb.size; (try simp at hz); (try have hzT := Nat.lt_of_succ_le hz); have hcA := bcell_any hb; (try (have hbA : (a.add (i * 5)).block < w1.heap.size := by omega)))) | (go_at_call 164; go_must ((with_reducible refine (hP _).mono ?_); rintro e w1 ⟨rfl, hb⟩; obtain ⟨hc, hf⟩ := bcell hb; have hz := hb.size; (try simp at hz); (try have hzT := Nat.lt_of_succ_le hz); have hcA := bcell_any hb; (try (have hbA : (a.add (i * 5)).block < w1.heap.size := by omega)))))
              have hz0 := hb.size
              have hzp : wr.heap.size < w1.heap.size := (by first | omega | (simp at hz0; omega))
              refine region_later (by kernel_rfl) (by kernel_rfl) ?_
              repeat (go_big_quiet_step (fail))
              refine wpQuiet_nil ?_
              intro w1 hb
              obtain ⟨hc, hf⟩ := bcell hb
              have hz2 := hb.size
              have hzq : wr.heap.size < w1.heap.size := (by first | omega | (simp at hz2; omega))
              go_wp2_with fail
              all_goals first
                | (go_ret; refine ⟨ret_bool (Eq.symm (HNO.out ?_)), (by with_reducible (repeat (first | assumption | refine Below.alloc ?_ (by first | (simp; done) | omega | (simp; omega)) _ | refine Below.trans ?_ (Below.mono (by assumption) (by first | (simp; done) | omega | (simp; omega))))))⟩; rw [HX.out]; simp <;> omega)
                | (refine ⟨⟨j + 1, by omega, by go_num, (by with_reducible (repeat (first | assumption | refine Below.alloc ?_ (by first | (simp; done) | omega | (simp; omega)) _ | refine Below.trans ?_ (Below.mono (by assumption) (by first | (simp; done) | omega | (simp; omega)))))), HK2.out ?_⟩, ?_⟩
                   · (rw [HX.out]; simp <;> omega)
                   · (simp [intOf] <;> omega))
            · obtain ⟨i, e⟩ : ∃ i, j = i + 1 := ⟨j - 1, by omega⟩
              have HLT := Lib.hid (show ∀ i, j = i + 1 → ∀ (hi : i < rs.length), keyLess rs[i].o rs[i].d o d = true from fun i e hi => by
                have := fun h => hlf ⟨i, e, h⟩
                simpa using this)
              have hf := HLT.out i e (by omega)
              obtain ⟨d0, d1⟩ := HI.out i e
              have hb1 := HB.out (i * 5)
              have hb2 : (a.add (i * 5)).block < wr.heap.size + 1 := by omega
              have hb3 : (a.add (i * 5)).block ≤ wr.heap.size := by omega
              have hb4 : (a.add (i * 5)).block ≠ wr.heap.size := by omega
              have hK2 := HZ.out i (by omega)
              subst e
              simp only at hK2
              rw [hf] at hK2
              have hj3 : (((i + 1 : Nat)) : Int) - 1 = (i : Int) := by omega
              have hi3 : (i : Int) < (rs.length : Int) := by omega
              have hi4 : (0 : Int) < ((i + 1 : Nat) : Int) := by omega
              have HK2 := Lib.hid (show mayRow ⟨o, d, code, amt, qty⟩ p = true → ∀ k, k < i + 2 → rowOkAt rs p k = true from fun h k hk2 => by
                rcases Nat.lt_or_ge k (i + 1) with h3 | h3
                · exact hok k h3
                · obtain rfl : k = i + 1 := by omega
                  exact HOK.out h HLT.out)
              go_wp2_with (first | (go_at_call 161; go_must ((with_reducible refine (hK _).mono ?_); rintro e w1 ⟨rfl, hb⟩; obtain ⟨hc, hf⟩ := bcell hb; have hz := hb.size; (try simp at hz); (try have hzT := Nat.lt_of_succ_le hz); have hcA := bcell_any hb; (try (have hbA : (a.add (i * 5)).block < w1.heap.size := by omega)))) | (go_at_call 164; go_must ((with_reducible refine (hP _).mono ?_); rintro e w1 ⟨rfl, hb⟩; obtain ⟨hc, hf⟩ := bcell hb; have hz := hb.size; (try simp at hz); (try have hzT := Nat.lt_of_succ_le hz); have hcA := bcell_any hb; (try (have hbA : (a.add (i * 5)).block < w1.heap.size := by omega)))))
              have hz0 := hb.size
              have hzp : wr.heap.size < w1.heap.size := (by first | omega | (simp at hz0; omega))
              refine region_later (by kernel_rfl) (by kernel_rfl) ?_
              repeat (go_big_quiet_step ((go_at_call 177; (with_reducible exact calls_later (by first | exact Nat.le_refl _ | (simp; done)) (hK2 _)))))
              refine wpQuiet_nil ?_
              intro w1 hb
              obtain ⟨hc, hf⟩ := bcell hb
              have hcA := bcell_any hb
              have hz2 := hb.size
              have hzq : wr.heap.size < w1.heap.size := (by first | omega | (simp at hz2; omega))
              go_wp2_with fail
              all_goals first
                | (go_ret; refine ⟨ret_bool (Eq.symm (HNO.out ?_)), (by with_reducible (repeat (first | assumption | refine Below.alloc ?_ (by first | (simp; done) | omega | (simp; omega)) _ | refine Below.trans ?_ (Below.mono (by assumption) (by first | (simp; done) | omega | (simp; omega))))))⟩; rw [HX.out]; simp <;> omega)
                | (refine ⟨⟨i + 2, by omega, by go_num, (by with_reducible (repeat (first | assumption | refine Below.alloc ?_ (by first | (simp; done) | omega | (simp; omega)) _ | refine Below.trans ?_ (Below.mono (by assumption) (by first | (simp; done) | omega | (simp; omega)))))), HK2.out ?_⟩, ?_⟩
                   · (rw [HX.out]; simp <;> omega)
                   · (simp [intOf] <;> omega))
          · have h1 : code = 1 := by omega
            have h2b : (code == 2) = false := by simpa using h2
            by_cases hp00 : p = 0
            · have HX := Lib.hid (HM.out.trans (show _ = (decide (qty = 0) && decide (0 ≤ amt) && decide (amt ≤ 1099511627776)) by simp [mayRow, hk, hq, h1, hp00]))
              have hpb : (p == 0) = true := by simpa using hp00
              have hpn : (p != 0) = false := by simpa using hp00
              clear hp00
              by_cases hj0 : j = 0
              · have hji : ¬ 0 < j := by omega
                have HLT := Lib.hid (show ∀ i, j = i + 1 → ∀ (hi : i < rs.length), keyLess rs[i].o rs[i].d o d = true from fun i e => by omega)
                clear hj0
                have HK2 := Lib.hid (show mayRow ⟨o, d, code, amt, qty⟩ p = true → ∀ k, k < j + 1 → rowOkAt rs p k = true from fun h k hk2 => by
                  rcases Nat.lt_or_ge k j with h3 | h3
                  · exact hok k h3
                  · obtain rfl : k = j := by omega
                    exact HOK.out h HLT.out)
                go_wp2_with (first | (go_at_call 161; go_must ((with_reducible refine (hK _).mono ?_); rintro e w1 ⟨rfl, hb⟩; obtain ⟨hc, hf⟩ := bcell hb; have hz := hb.size; (try simp at hz); (try have hzT := Nat.lt_of_succ_le hz); have hcA := bcell_any hb; (try (have hbA : (a.add (i * 5)).block < w1.heap.size := by omega)))) | (go_at_call 164; go_must ((with_reducible refine (hP _).mono ?_); rintro e w1 ⟨rfl, hb⟩; obtain ⟨hc, hf⟩ := bcell hb; have hz := hb.size; (try simp at hz); (try have hzT := Nat.lt_of_succ_le hz); have hcA := bcell_any hb; (try (have hbA : (a.add (i * 5)).block < w1.heap.size := by omega)))))
                have hz0 := hb.size
                have hzp : wr.heap.size < w1.heap.size := (by first | omega | (simp at hz0; omega))
                refine region_later (by kernel_rfl) (by kernel_rfl) ?_
                repeat (go_big_quiet_step (fail))
                refine wpQuiet_nil ?_
                intro w1 hb
                obtain ⟨hc, hf⟩ := bcell hb
                have hz2 := hb.size
                have hzq : wr.heap.size < w1.heap.size := (by first | omega | (simp at hz2; omega))
                go_wp2_with fail
                all_goals first
                  | (go_ret; refine ⟨ret_bool (Eq.symm (HNO.out ?_)), (by with_reducible (repeat (first | assumption | refine Below.alloc ?_ (by first | (simp; done) | omega | (simp; omega)) _ | refine Below.trans ?_ (Below.mono (by assumption) (by first | (simp; done) | omega | (simp; omega))))))⟩; rw [HX.out]; simp <;> omega)
                  | (refine ⟨⟨j + 1, by omega, by go_num, (by with_reducible (repeat (first | assumption | refine Below.alloc ?_ (by first | (simp; done) | omega | (simp; omega)) _ | refine Below.trans ?_ (Below.mono (by assumption) (by first | (simp; done) | omega | (simp; omega)))))), HK2.out ?_⟩, ?_⟩
                     · (rw [HX.out]; simp <;> omega)
                     · (simp [intOf] <;> omega))
              · obtain ⟨i, e⟩ : ∃ i, j = i + 1 := ⟨j - 1, by omega⟩
                have HLT := Lib.hid (show ∀ i, j = i + 1 → ∀ (hi : i < rs.length), keyLess rs[i].o rs[i].d o d = true from fun i e hi => by
                  have := fun h => hlf ⟨i, e, h⟩
                  simpa using this)
                have hf := HLT.out i e (by omega)
                obtain ⟨d0, d1⟩ := HI.out i e
                have hb1 := HB.out (i * 5)
                have hb2 : (a.add (i * 5)).block < wr.heap.size + 1 := by omega
                have hb3 : (a.add (i * 5)).block ≤ wr.heap.size := by omega
                have hb4 : (a.add (i * 5)).block ≠ wr.heap.size := by omega
                have hK2 := HZ.out i (by omega)
                subst e
                simp only at hK2
                rw [hf] at hK2
                have hj3 : (((i + 1 : Nat)) : Int) - 1 = (i : Int) := by omega
                have hi3 : (i : Int) < (rs.length : Int) := by omega
                have hi4 : (0 : Int) < ((i + 1 : Nat) : Int) := by omega
                have HK2 := Lib.hid (show mayRow ⟨o, d, code, amt, qty⟩ p = true → ∀ k, k < i + 2 → rowOkAt rs p k = true from fun h k hk2 => by
                  rcases Nat.lt_or_ge k (i + 1) with h3 | h3
                  · exact hok k h3
                  · obtain rfl : k = i + 1 := by omega
                    exact HOK.out h HLT.out)
                go_wp2_with (first | (go_at_call 161; go_must ((with_reducible refine (hK _).mono ?_); rintro e w1 ⟨rfl, hb⟩; obtain ⟨hc, hf⟩ := bcell hb; have hz := hb.size; (try simp at hz); (try have hzT := Nat.lt_of_succ_le hz); have hcA := bcell_any hb; (try (have hbA : (a.add (i * 5)).block < w1.heap.size := by omega)))) | (go_at_call 164; go_must ((with_reducible refine (hP _).mono ?_); rintro e w1 ⟨rfl, hb⟩; obtain ⟨hc, hf⟩ := bcell hb; have hz := hb.size; (try simp at hz); (try have hzT := Nat.lt_of_succ_le hz); have hcA := bcell_any hb; (try (have hbA : (a.add (i * 5)).block < w1.heap.size := by omega)))))
                have hz0 := hb.size
                have hzp : wr.heap.size < w1.heap.size := (by first | omega | (simp at hz0; omega))
                refine region_later (by kernel_rfl) (by kernel_rfl) ?_
                repeat (go_big_quiet_step ((go_at_call 177; (with_reducible exact calls_later (by first | exact Nat.le_refl _ | (simp; done)) (hK2 _)))))
                refine wpQuiet_nil ?_
                intro w1 hb
                obtain ⟨hc, hf⟩ := bcell hb
                have hcA := bcell_any hb
                have hz2 := hb.size
                have hzq : wr.heap.size < w1.heap.size := (by first | omega | (simp at hz2; omega))
                go_wp2_with fail
                all_goals first
                  | (go_ret; refine ⟨ret_bool (Eq.symm (HNO.out ?_)), (by with_reducible (repeat (first | assumption | refine Below.alloc ?_ (by first | (simp; done) | omega | (simp; omega)) _ | refine Below.trans ?_ (Below.mono (by assumption) (by first | (simp; done) | omega | (simp; omega))))))⟩; rw [HX.out]; simp <;> omega)
                  | (refine ⟨⟨i + 2, by omega, by go_num, (by with_reducible (repeat (first | assumption | refine Below.alloc ?_ (by first | (simp; done) | omega | (simp; omega)) _ | refine Below.trans ?_ (Below.mono (by assumption) (by first | (simp; done) | omega | (simp; omega)))))), HK2.out ?_⟩, ?_⟩
                     · (rw [HX.out]; simp <;> omega)
                     · (simp [intOf] <;> omega))
            · have HX := Lib.hid (HM.out.trans (show _ = (decide (amt = 0) && decide (0 ≤ qty) && decide (qty ≤ 999)) by simp [mayRow, hk, hq, h1, hp00]))
              have hpb : (p == 0) = false := by simpa using hp00
              have hpn : (p != 0) = true := by simpa using hp00
              by_cases hj0 : j = 0
              · have hji : ¬ 0 < j := by omega
                have HLT := Lib.hid (show ∀ i, j = i + 1 → ∀ (hi : i < rs.length), keyLess rs[i].o rs[i].d o d = true from fun i e => by omega)
                clear hj0
                have HK2 := Lib.hid (show mayRow ⟨o, d, code, amt, qty⟩ p = true → ∀ k, k < j + 1 → rowOkAt rs p k = true from fun h k hk2 => by
                  rcases Nat.lt_or_ge k j with h3 | h3
                  · exact hok k h3
                  · obtain rfl : k = j := by omega
                    exact HOK.out h HLT.out)
                go_wp2_with (first | (go_at_call 161; go_must ((with_reducible refine (hK _).mono ?_); rintro e w1 ⟨rfl, hb⟩; obtain ⟨hc, hf⟩ := bcell hb; have hz := hb.size; (try simp at hz); (try have hzT := Nat.lt_of_succ_le hz); have hcA := bcell_any hb; (try (have hbA : (a.add (i * 5)).block < w1.heap.size := by omega)))) | (go_at_call 164; go_must ((with_reducible refine (hP _).mono ?_); rintro e w1 ⟨rfl, hb⟩; obtain ⟨hc, hf⟩ := bcell hb; have hz := hb.size; (try simp at hz); (try have hzT := Nat.lt_of_succ_le hz); have hcA := bcell_any hb; (try (have hbA : (a.add (i * 5)).block < w1.heap.size := by omega)))))
                have hz0 := hb.size
                have hzp : wr.heap.size < w1.heap.size := (by first | omega | (simp at hz0; omega))
                refine region_later (by kernel_rfl) (by kernel_rfl) ?_
                repeat (go_big_quiet_step (fail))
                refine wpQuiet_nil ?_
                intro w1 hb
                obtain ⟨hc, hf⟩ := bcell hb
                have hz2 := hb.size
                have hzq : wr.heap.size < w1.heap.size := (by first | omega | (simp at hz2; omega))
                go_wp2_with fail
                all_goals first
                  | (go_ret; refine ⟨ret_bool (Eq.symm (HNO.out ?_)), (by with_reducible (repeat (first | assumption | refine Below.alloc ?_ (by first | (simp; done) | omega | (simp; omega)) _ | refine Below.trans ?_ (Below.mono (by assumption) (by first | (simp; done) | omega | (simp; omega))))))⟩; rw [HX.out]; simp <;> omega)
                  | (refine ⟨⟨j + 1, by omega, by go_num, (by with_reducible (repeat (first | assumption | refine Below.alloc ?_ (by first | (simp; done) | omega | (simp; omega)) _ | refine Below.trans ?_ (Below.mono (by assumption) (by first | (simp; done) | omega | (simp; omega)))))), HK2.out ?_⟩, ?_⟩
                     · (rw [HX.out]; simp <;> omega)
                     · (simp [intOf] <;> omega))
              · obtain ⟨i, e⟩ : ∃ i, j = i + 1 := ⟨j - 1, by omega⟩
                have HLT := Lib.hid (show ∀ i, j = i + 1 → ∀ (hi : i < rs.length), keyLess rs[i].o rs[i].d o d = true from fun i e hi => by
                  have := fun h => hlf ⟨i, e, h⟩
                  simpa using this)
                have hf := HLT.out i e (by omega)
                obtain ⟨d0, d1⟩ := HI.out i e
                have hb1 := HB.out (i * 5)
                have hb2 : (a.add (i * 5)).block < wr.heap.size + 1 := by omega
                have hb3 : (a.add (i * 5)).block ≤ wr.heap.size := by omega
                have hb4 : (a.add (i * 5)).block ≠ wr.heap.size := by omega
                have hK2 := HZ.out i (by omega)
                subst e
                simp only at hK2
                rw [hf] at hK2
                have hj3 : (((i + 1 : Nat)) : Int) - 1 = (i : Int) := by omega
                have hi3 : (i : Int) < (rs.length : Int) := by omega
                have hi4 : (0 : Int) < ((i + 1 : Nat) : Int) := by omega
                have HK2 := Lib.hid (show mayRow ⟨o, d, code, amt, qty⟩ p = true → ∀ k, k < i + 2 → rowOkAt rs p k = true from fun h k hk2 => by
                  rcases Nat.lt_or_ge k (i + 1) with h3 | h3
                  · exact hok k h3
                  · obtain rfl : k = i + 1 := by omega
                    exact HOK.out h HLT.out)
                go_wp2_with (first | (go_at_call 161; go_must ((with_reducible refine (hK _).mono ?_); rintro e w1 ⟨rfl, hb⟩; obtain ⟨hc, hf⟩ := bcell hb; have hz := hb.size; (try simp at hz); (try have hzT := Nat.lt_of_succ_le hz); have hcA := bcell_any hb; (try (have hbA : (a.add (i * 5)).block < w1.heap.size := by omega)))) | (go_at_call 164; go_must ((with_reducible refine (hP _).mono ?_); rintro e w1 ⟨rfl, hb⟩; obtain ⟨hc, hf⟩ := bcell hb; have hz := hb.size; (try simp at hz); (try have hzT := Nat.lt_of_succ_le hz); have hcA := bcell_any hb; (try (have hbA : (a.add (i * 5)).block < w1.heap.size := by omega)))))
                have hz0 := hb.size
                have hzp : wr.heap.size < w1.heap.size := (by first | omega | (simp at hz0; omega))
                refine region_later (by kernel_rfl) (by kernel_rfl) ?_
                repeat (go_big_quiet_step ((go_at_call 177; (with_reducible exact calls_later (by first | exact Nat.le_refl _ | (simp; done)) (hK2 _)))))
                refine wpQuiet_nil ?_
                intro w1 hb
                obtain ⟨hc, hf⟩ := bcell hb
                have hcA := bcell_any hb
                have hz2 := hb.size
                have hzq : wr.heap.size < w1.heap.size := (by first | omega | (simp at hz2; omega))
                go_wp2_with fail
                all_goals first
                  | (go_ret; refine ⟨ret_bool (Eq.symm (HNO.out ?_)), (by with_reducible (repeat (first | assumption | refine Below.alloc ?_ (by first | (simp; done) | omega | (simp; omega)) _ | refine Below.trans ?_ (Below.mono (by assumption) (by first | (simp; done) | omega | (simp; omega))))))⟩; rw [HX.out]; simp <;> omega)
                  | (refine ⟨⟨i + 2, by omega, by go_num, (by with_reducible (repeat (first | assumption | refine Below.alloc ?_ (by first | (simp; done) | omega | (simp; omega)) _ | refine Below.trans ?_ (Below.mono (by assumption) (by first | (simp; done) | omega | (simp; omega)))))), HK2.out ?_⟩, ?_⟩
                     · (rw [HX.out]; simp <;> omega)
                     · (simp [intOf] <;> omega))
  · have hQ : chkRows rs p = false := by simp only [chkRows]; simp; omega
    have HQ := Lib.hid hQ
    clear hQ
    by_cases h0 : p < 0
    · go_enter Tryz.func163, Tryz.ntmps163
      go_wp2_with fail
      go_ret
      exact ⟨by rw [HQ.out]; rfl, (by with_reducible (repeat (exact Below.refl _ _)))⟩
    · by_cases h2 : 2 < p
      · go_enter Tryz.func163, Tryz.ntmps163
        go_wp2_with fail
        go_ret
        exact ⟨by rw [HQ.out]; rfl, (by with_reducible (repeat (exact Below.refl _ _)))⟩
      · have h4 : (400 : Int) < (rs.length : Int) := by omega
        go_enter Tryz.func163, Tryz.ntmps163
        go_wp2_with fail
        go_ret
        exact ⟨by rw [HQ.out]; rfl, (by with_reducible (repeat (exact Below.refl _ _)))⟩
end Go.Proofs.YtibabfedpdoofaaGreatDoor
namespace Go.Proofs.YtibabfedpdoofaaGreatDoor
open Go.RowKit Go.Own

/-- A slice of rows: none, or some that lie in memory. -/
inductive IsRows (w : World) : Value → List RowS → Prop
  | none (sp : Option Addr) (sc : Nat) (hn : sp = Option.none → sc = 0) : IsRows w (.slice sp 0 sc) []
  | some (a : Addr) (cap : Nat) (rs : List RowS) (hlen : rs.length ≤ cap) (hcap : cap ≤ maxLen) (h0 : 0 < rs.length) (h : RowsAt w a rs) : IsRows w (.slice (some a) rs.length cap) rs
def VRows (v : Value) (B : Nat) : Prop := ∀ a n c, v = .slice (some a) n c → 0 < n → a.block < B
theorem IsRows.lt {w : World} {v : Value} {rs : List RowS} (h : IsRows w v rs) : VRows v w.heap.size := by
  intro a n c e hn
  cases h with
  | none sp sc hn => cases e; omega
  | some a' cap rs hlen hcap h0 h => cases e; exact h.lt
theorem IsRows.below {B : Nat} {w w' : World} {v : Value} {rs : List RowS} (h : IsRows w v rs) (hb : Below B w w') (hB : VRows v B) : IsRows w' v rs := by
  cases h with
  | none sp sc hn => exact .none sp sc hn
  | some a cap rs hlen hcap h0 h => exact .some a cap rs hlen hcap h0 (h.below hb (hB a _ _ rfl h0))
theorem IsRows.slice {w : World} {v : Value} {rs : List RowS} (h : IsRows w v rs) : ∃ p c, v = .slice p rs.length c ∧ rs.length ≤ maxLen := by
  cases h with
  | none sp sc hn => exact ⟨_, _, rfl, by simp⟩
  | some a cap rs hlen hcap h0 h => exact ⟨_, _, rfl, by omega⟩
theorem rowsCheck_any {w : World} {v : Value} {rs : List RowS} (p : Int) (h : IsRows w v rs) (hL : Laid w) :
    Calls Tryz.prog 175 #[v, .int .i64 p] w fun e w' => e = .returned (.bool (chkRows rs p)) ∧ Below w.heap.size w w' := by
  cases h with
  | none sp sc hn => exact rowsCheck_nil sp sc p w
  | some a cap rs hlen hcap h0 h => exact rowsCheck_some rs a cap p w hlen hcap h hL
set_option maxHeartbeats 1000000 in
theorem rowsRef_nil (sp : Option Addr) (sc : Nat) (p : Int) (w : World) : Calls Tryz.prog 163 #[.slice sp 0 sc, .int .i64 p] w fun e w' => e = .returned (.bool (chkRows [] p)) ∧ Below w.heap.size w w' := by
  by_cases h0 : p < 0
  · go_enter Tryz.func163, Tryz.ntmps163
    go_wp2_with fail
    go_ret
    exact ⟨ret_bool (by simp [chkRows]; omega), (by with_reducible (repeat (exact Below.refl _ _)))⟩
  · by_cases h2 : 2 < p
    · go_enter Tryz.func163, Tryz.ntmps163
      go_wp2_with fail
      go_ret
      exact ⟨ret_bool (by simp [chkRows]; omega), (by with_reducible (repeat (exact Below.refl _ _)))⟩
    · go_enter Tryz.func163, Tryz.ntmps163
      go_wp2_with fail
      go_loopw [5] (fun k wr => k = .int .i64 0 ∧ Below w.heap.size w wr) (fun k _ => 0)
      case atStart => exact ⟨rfl, Below.refl _ _⟩
      case round =>
        obtain ⟨rfl, hbr⟩ := hrel
        go_wp2_with fail
        go_ret
        exact ⟨ret_bool (by simp [chkRows]; omega), hbr⟩
theorem rowsRef_any {w : World} {v : Value} {rs : List RowS} (p : Int) (h : IsRows w v rs) :
    Calls Tryz.prog 163 #[v, .int .i64 p] w fun e w' => e = .returned (.bool (chkRows rs p)) ∧ Below w.heap.size w w' := by
  cases h with
  | none sp sc hn => exact rowsRef_nil sp sc p w
  | some a cap rs hlen hcap h0 h => exact rowsRef_some rs a cap p w hlen hcap h

def okStmt (party seq : Int) (rs : List RowS) : Bool := decide (1 ≤ seq) && decide (seq ≤ 1073741824) && chkRows rs party

set_option maxHeartbeats 1000000 in
theorem rowsValid_any {w : World} {v : Value} {rs : List RowS} (p q : Int) (h : IsRows w v rs) (hL : Laid w) :
    Calls Tryz.prog 159 #[.agg #[.int .i64 p, .int .i64 q, v]] w fun e w' => e = .returned (.bool (okStmt p q rs)) ∧ Below w.heap.size w w' := by
  obtain ⟨sp, sc, rfl, _⟩ := h.slice
  have hC := fun w' (hb : Below w.heap.size w w') => rowsCheck_any p (h.below hb h.lt) (hL.below hb hL.1)
  clear h hL
  by_cases h1 : 1 ≤ q
  · by_cases h2 : q ≤ 1073741824
    · have HQ := Lib.hid (show okStmt p q rs = chkRows rs p by simp [okStmt, h1, h2])
      go_enter Tryz.func159, Tryz.ntmps159
      go_wp2_with (go_at_call 175; go_must ((with_reducible refine (hC _ (by with_reducible (repeat (first | exact Below.refl _ _ | refine Below.alloc ?_ (by first | (simp; done) | omega | (simp; omega)) _)))).mono ?_); rintro e w1 ⟨rfl, hb⟩; obtain ⟨hc, hf⟩ := bcell hb; have hz := hb.size; (try simp at hz); (try have hzT := Nat.lt_of_succ_le hz); have hzA : w.heap.size < w1.heap.size := (by omega); have hzA2 := Nat.le_of_lt hzA))
      go_ret
      exact ⟨by rw [HQ.out]; rfl, (by with_reducible (repeat (first | exact Below.refl _ _ | refine Below.alloc ?_ (by first | (simp; done) | omega | (simp; omega)) _ | refine Below.trans ?_ (Below.mono (by assumption) (by first | (simp; done) | omega | (simp; omega))))))⟩
    · have h2' : 1073741824 < q := by omega
      have HQ := Lib.hid (show okStmt p q rs = false by simp [okStmt]; omega)
      go_enter Tryz.func159, Tryz.ntmps159
      go_wp2_with fail
      go_ret
      exact ⟨by rw [HQ.out]; rfl, (by with_reducible (repeat (first | exact Below.refl _ _ | refine Below.alloc ?_ (by first | (simp; done) | omega | (simp; omega)) _)))⟩
  · have h1' : q < 1 := by omega
    have HQ := Lib.hid (show okStmt p q rs = false by simp [okStmt]; omega)
    go_enter Tryz.func159, Tryz.ntmps159
    go_wp2_with fail
    go_ret
    exact ⟨by rw [HQ.out]; rfl, (by with_reducible (repeat (first | exact Below.refl _ _ | refine Below.alloc ?_ (by first | (simp; done) | omega | (simp; omega)) _)))⟩
set_option maxHeartbeats 1000000 in
theorem refValid_any {w : World} {v : Value} {rs : List RowS} (p q : Int) (h : IsRows w v rs) :
    Calls Tryz.prog 136 #[.agg #[.int .i64 p, .int .i64 q, v]] w fun e w' => e = .returned (.bool (okStmt p q rs)) ∧ Below w.heap.size w w' := by
  obtain ⟨sp, sc, rfl, _⟩ := h.slice
  have hC := fun w' (hb : Below w.heap.size w w') => rowsRef_any p (h.below hb h.lt)
  clear h
  by_cases h1 : 0 < q
  · by_cases h2 : q ≤ 1073741824
    · have HQ := Lib.hid (show okStmt p q rs = chkRows rs p by simp [okStmt, h2]; omega)
      go_enter Tryz.func136, Tryz.ntmps136
      go_wp2_with (go_at_call 163; go_must ((with_reducible refine (hC _ (by with_reducible (repeat (first | exact Below.refl _ _ | refine Below.alloc ?_ (by first | (simp; done) | omega | (simp; omega)) _)))).mono ?_); rintro e w1 ⟨rfl, hb⟩; obtain ⟨hc, hf⟩ := bcell hb; have hz := hb.size; (try simp at hz); (try have hzT := Nat.lt_of_succ_le hz); have hzA : w.heap.size < w1.heap.size := (by omega); have hzA2 := Nat.le_of_lt hzA))
      go_ret
      exact ⟨by rw [HQ.out]; rfl, (by with_reducible (repeat (first | exact Below.refl _ _ | refine Below.alloc ?_ (by first | (simp; done) | omega | (simp; omega)) _ | refine Below.trans ?_ (Below.mono (by assumption) (by first | (simp; done) | omega | (simp; omega))))))⟩
    · have h2' : 1073741824 < q := by omega
      have HQ := Lib.hid (show okStmt p q rs = false by simp [okStmt]; omega)
      go_enter Tryz.func136, Tryz.ntmps136
      go_wp2_with fail
      go_ret
      exact ⟨by rw [HQ.out]; rfl, (by with_reducible (repeat (first | exact Below.refl _ _ | refine Below.alloc ?_ (by first | (simp; done) | omega | (simp; omega)) _)))⟩
  · have h1' : q ≤ 0 := by omega
    have HQ := Lib.hid (show okStmt p q rs = false by simp [okStmt]; omega)
    go_enter Tryz.func136, Tryz.ntmps136
    go_wp2_with fail
    go_ret
    exact ⟨by rw [HQ.out]; rfl, (by with_reducible (repeat (first | exact Below.refl _ _ | refine Below.alloc ?_ (by first | (simp; done) | omega | (simp; omega)) _)))⟩
end Go.Proofs.YtibabfedpdoofaaGreatDoor

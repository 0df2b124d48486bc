/-
  AgingSee, by walking the law's text; conditions: the entries lie in memory, the laid tables. (Printed by wip/mkagesee.py.)
  Numbers that came in as a slice; conditions: none.
-/
import Derived.Test.YtibabfedpdoofaaGreatDoorQa1
import Derived.Test.YtibabfedpdoofaaGreatDoorQa13
import Derived.Test.YtibabfedpdoofaaGreatDoorQi1
namespace Go.Proofs.YtibabfedpdoofaaGreatDoor
open Go.RowKit Go.Own Go.Maps

theorem coAt_sub {W w : World} {L : List Ent} {a : CoA} {S : CoS} {i : InA} {A : InS} (h : Own W w L) (hm : ∀ e ∈ coPs a S i A, e ∈ L) : CoAt w a S i A := Own.coAt h (hm _ (.head _)) (hm _ (.tail _ (.head _))) (hm _ (.tail _ (.tail _ (.head _))))
theorem oldV_form (s : Int × Int × Bool) : ∃ a b c, oldV s = .tuple #[.int .i64 a, .int .i64 b, .bool c] := by
  unfold oldV
  split
  · exact ⟨_, _, _, rfl⟩
  · exact ⟨_, _, _, rfl⟩
theorem sinceOf_in {ls : List LineS} {now id : Int} (hn : 0 ≤ now ∧ now ≤ 1099511627776) (h : ∀ x ∈ ls, 0 ≤ x.s ∧ x.s ≤ 1099511627776 ∧ inI x.a = true) : 0 ≤ sinceOf ls now id ∧ sinceOf ls now id ≤ 1099511627776 := by
  unfold sinceOf
  split
  · rename_i x hx
    have := h x (List.mem_of_find?_eq_some hx)
    omega
  · exact hn
theorem see_ok {now : Int} {ls : List LineS} {P : List Pst} (hk : LinesOk now ls) (hB : Bk P) (t : Int) (n : Nat) : LinesOk (seeN now t) (seeL ls (seeN now t) P n) := by
  obtain ⟨h1, h2, h3⟩ := hk
  have hn : 0 ≤ seeN now t ∧ seeN now t ≤ 1099511627776 := by unfold seeN; omega
  refine ⟨hn.1, hn.2, ?_⟩
  induction n with
  | zero => intro x hx; cases hx
  | succ n ih =>
    intro x hx
    unfold seeL at hx
    rcases List.mem_append.1 hx with hx | hx
    · exact ih x hx
    · split at hx
      · cases hx
      · obtain rfl := List.mem_singleton.1 hx
        have := sinceOf_in (id := (n : Int) + 1) hn h3
        exact ⟨this.1, this.2, hB.bal_in _ _⟩

set_option maxHeartbeats 8000000 in
set_option maxRecDepth 100000 in
theorem agCopy_any {w : World} {g : Nat} {now : Int} {v : Value} {ls : List LineS} (h : AgAt w g now v ls) (hn : rowNil v) (hlen : ls.length ≤ 100000) : Calls Tryz.prog 29 #[.pointer (some ⟨g, 0, none⟩)] w fun e w' => ∃ g' v', e = .returned (.pointer (some ⟨g', 0, none⟩)) ∧ Own w w' (agPs g' now v' ls) := by
  have HO := Own.start w
  have N := fun w' (hb : Below w.heap.size w w') => agNone_any (b := true) (h.below hb).box
  have C := fun w' (hb : Below w.heap.size w w') => agLines_any (h.below hb) hn hlen
  have h1 := Lib.hid (fun w' (hb : Below w.heap.size w w') => old_cell (h.below hb).box 1 rfl)
  clear h
  go_enter Tryz.func29, Tryz.ntmps29
  go_upto_region 3 with (first | go_big_skip | (go_at_call 93; go_must ((with_reducible refine (N _ HO.grown).mono ?_); rintro e w ⟨rfl, hb⟩; replace HO := HO.call hb; clear hb)))
  refine region_schedO ([]) [(0, true), (1, true), (2, true), (3, true), (4, true), (5, false), (6, true), (7, false), (8, true)] HO (List.nil_sublist _) (by kernel_rfl) (by kernel_rfl) ?_
  clear HO
  intro w HO
  repeat (first | ((with_reducible apply wpHeld_loadAt1); exact rfl; exact rfl; exact rfl; exact (fun w' hw => h1.out w' (hw _ List.mem_cons_self)); infer_instance; exact rfl; (simp only [Act.put, zA, zB, zC])) | ((with_reducible apply wpHeld_pure); exact rfl; exact rfl; (intro w'; go_simp; try with_reducible rfl); (simp only [Act.put, zA, zB, zC])))
  ((with_reducible apply wpHeld_loud); exact rfl; go_wp2_with ((go_at_call 35; go_must ((with_reducible refine (C _ HO.grown).mono ?_); rintro e w ⟨v9, rfl, HO1⟩; replace HO := HO.lift HO1; clear HO1; simp only [List.cons_append, List.nil_append] at HO))))
  obtain ⟨⟨p9, c9, rfl⟩, -⟩ := HO.rowForm (.head _)
  refine ⟨HO.heldO (List.nil_sublist _), ?_⟩
  repeat ((with_reducible apply wpHeld_pure); exact rfl; exact rfl; (intro w'; go_simp; try with_reducible rfl); (simp only [Act.put, zA, zB, zC]))
  ((with_reducible apply wpHeld_loud); exact rfl; (first | ((with_reducible apply wpList_boxAgg _ HO rfl); exact rfl; exact rfl; exact rfl; clear HO; intro b9 w HO; (simp only [Act.put, zA, zB, zC])) | ((with_reducible apply wpList_allocAgg _ HO rfl); exact rfl; infer_instance; exact rfl; clear HO; intro b9 w HO; (simp only [Act.put, zA, zB, zC])) | ((with_reducible apply wpList_boxOne _ HO rfl); exact rfl; (first | (simp [Act.eval]; rfl) | exact rfl); exact rfl; exact rfl; clear HO; intro b9 w HO; (simp only [Act.put, zA, zB, zC])) | ((with_reducible apply wpList_alloc _ HO rfl); exact rfl; infer_instance; exact rfl; exact rfl; clear HO; intro b9 w HO; (simp only [Act.put, zA, zB, zC]))))
  refine wpList_nil ⟨HO.heldO (List.nil_sublist _), ?_⟩
  repeat ((with_reducible apply wpHeld_pure); exact rfl; exact rfl; (intro w'; go_simp; try with_reducible rfl); (simp only [Act.put, zA, zB, zC]))
  refine wpHeld_end ?_
  go_wp2_with fail
  go_ret
  simp only [List.length_map] at HO
  exact ⟨b9, _, rfl, HO⟩

set_option maxHeartbeats 32000000 in
set_option maxRecDepth 100000 in
theorem agingSee_any {W : World} {v u : Value} {es : List EntI} {ts : List Int} (h : IsEnts W v es) (ht : IsL W 1 u (ts.map fun t => [Value.int .i64 t])) (least : Int) (hL : LaidE W) : Calls Tryz.prog 4 #[v, u, .int .i64 least] W fun e w' => e = .returned (.bool true) ∧ Below W.heap.size W w' := by
  have HO := Own.start W
  have AD := fun (w : World) (hb : Below W.heap.size W w) => aged_any w (hL.below hb)
  have GR := fun (w : World) (hb : Below W.heap.size W w) => great24_any 40 (h.below hb)
  have HE := Lib.hid (h.into [])
  have HT := Lib.hid ht
  obtain ⟨sp, sc, rfl, hmx⟩ := h.l.slice
  obtain ⟨tp, tc, rfl, htx⟩ := ht.slice
  rw [List.length_map] at hmx HE GR htx HT ⊢
  rw [List.length_map]
  have hmx' : (es.length : Int) ≤ 9223372036854775807 := by unfold maxLen at hmx; omega
  by_cases hg : greatL es 40 = true
  · rw [hg] at GR
    clear HE HT h ht
    go_enter Tryz.func4, Tryz.ntmps4
    go_wp2_with (first | go_big_skip | (go_at_call 11; go_must ((with_reducible refine (GR _ HO.grown).mono ?_); rintro e w ⟨rfl, hb⟩; replace HO := HO.call hb; clear hb)) | (go_at_call 23; go_must ((with_reducible refine (AD _ HO.grown).mono ?_); rintro e w ⟨rfl, hb⟩; replace HO := HO.call hb; clear hb)))
    go_ret
    exact ⟨rfl, HO.grown⟩
  have hl40 : es.length ≤ 40 := by
    simp only [greatL, Bool.or_eq_true, decide_eq_true_eq, not_or] at hg
    omega
  rw [Bool.not_eq_true] at hg
  rw [hg] at GR
  by_cases ht40 : (40 : Int) < (ts.length : Int)
  · clear HE HT h ht
    go_enter Tryz.func4, Tryz.ntmps4
    go_wp2_with (first | go_big_skip | (go_at_call 11; go_must ((with_reducible refine (GR _ HO.grown).mono ?_); rintro e w ⟨rfl, hb⟩; replace HO := HO.call hb; clear hb)) | (go_at_call 23; go_must ((with_reducible refine (AD _ HO.grown).mono ?_); rintro e w ⟨rfl, hb⟩; replace HO := HO.call hb; clear hb)))
    go_ret
    exact ⟨rfl, HO.grown⟩
  clear hg h ht
  go_enter Tryz.func4, Tryz.ntmps4
  go_wp2_with (first | go_big_skip | (go_at_call 11; go_must ((with_reducible refine (GR _ HO.grown).mono ?_); rintro e w ⟨rfl, hb⟩; replace HO := HO.call hb; clear hb)) | (go_at_call 24; go_must ((with_reducible refine (agNew_any _).mono ?_); rintro e w ⟨g, rfl, HO1⟩; replace HO := HO.lift HO1; clear HO1)) | (first | ((with_reducible apply wpList_boxAgg _ HO rfl); exact rfl; exact rfl; exact rfl; clear HO; intro b8 w HO; (simp only [Act.put, zA, zB, zC])) | ((with_reducible apply wpList_allocAgg _ HO rfl); exact rfl; infer_instance; exact rfl; clear HO; intro b8 w HO; (simp only [Act.put, zA, zB, zC])) | ((with_reducible apply wpList_boxOne _ HO rfl); exact rfl; (first | (simp [Act.eval]; rfl) | exact rfl); exact rfl; exact rfl; clear HO; intro b8 w HO; (simp only [Act.put, zA, zB, zC])) | ((with_reducible apply wpList_alloc _ HO rfl); exact rfl; infer_instance; exact rfl; exact rfl; clear HO; intro b8 w HO; (simp only [Act.put, zA, zB, zC]))) | (go_at_call 25; go_must ((with_reducible refine (coNew_any _).mono ?_); rintro e w ⟨a, rfl, HO1⟩; replace HO := HO.lift HO1; clear HO1)) | (go_at_call 26; go_must ((with_reducible refine (rcNew_any _).mono ?_); rintro e w ⟨r, rfl, HO1⟩; replace HO := HO.lift HO1; clear HO1)))
  have HI : Own W w (coPs a ⟨[], []⟩ inNil zeroI ++ (inPs inNil zeroI ++ (rcB (rcNil r) zeroI :: ([] ++ (agPs g 0 (.slice none 0 0) [] ++ raPs b8 0 (.slice none 0 0) []))))) := by
    have h1 := HO.nil 178 3
    exact h1.perm (by classical exact List.perm_iff_count.2 (fun x9 => by simp only [raPs, List.map_nil, List.count_append, List.count_cons, List.count_nil, Nat.add_zero, Nat.zero_add]; ac_rfl))
  clear HO
  go_loopw [11] (fun iv wr => ∃ (j : Nat) (a' : CoA) (i' : InA) (x' : RcA) (N : List Ent) (now : Int) (ls : List LineS) (v1 v2 : Value), j ≤ es.length ∧ iv = .int .i64 (j : Int) ∧ a'.c = a.c ∧ x'.r = r ∧ RcIn W N x' (coreOf ((es.map (·.x)).take j)).1 (coreOf ((es.map (·.x)).take j)).2 ∧ LinesOk now ls ∧ uniqL ls ∧ ls.length ≤ 60 ∧
    Own W wr (coPs a' (coreOf ((es.map (·.x)).take j)).1 i' (coreOf ((es.map (·.x)).take j)).2 ++ (inPs i' (coreOf ((es.map (·.x)).take j)).2 ++ (rcB x' (coreOf ((es.map (·.x)).take j)).2 :: (N ++ (agPs g now v1 ls ++ raPs b8 now v2 ls)))))) (fun iv _ => es.length - (intOf iv).toNat)
  case atStart => exact ⟨0, a, inNil, rcNil r, [], 0, [], .slice none 0 0, .slice none 0 0, by omega, rfl, rfl, rfl, rcNil_in W r, ⟨by decide, by decide, by simp⟩, List.Pairwise.nil, by decide, HI⟩
  case round =>
    clear HI
    obtain ⟨j, a', i', x', N, now, ls, v1, v2, hj, rfl, hac, hxr, hR, hk, hu, hz, HO⟩ := hrel
    by_cases hjl : j < es.length
    · have hjI : (j : Int) < (es.length : Int) := by omega
      obtain ⟨q, rfl⟩ : ∃ q, sp = some q := by
        rcases sp with _ | q
        · have := (HE.out.l wr HO.grown (fun e he => by cases he)).at (by simp; omega)
          obtain ⟨_, _, h, _⟩ := this
          cases h
        · exact ⟨q, rfl⟩
      have HIc := Lib.hid (fun (w' : World) (hb : Below W.heap.size W w') => isL_cell (HE.out.l w' hb (fun e he => by cases he)) (j := j) (by simpa using hjl))
      simp only [List.getElem_map] at HIc
      have hent := HE.out.r _ (List.getElem_mem hjl)
      obtain ⟨ok1, ok2, ok3⟩ := coreOf_ok (es.map (·.x)) j (by simp; omega)
      obtain ⟨ok4, ok5, ok6⟩ := coreOf_ok (es.map (·.x)) (j + 1) (by simp; omega)
      have inv := coreOf_inv (es.map (·.x)) (by simp; omega) j (by simp; omega)
      have inv1 := coreOf_inv (es.map (·.x)) (by simp; omega) (j + 1) (by simp; omega)
      have ids := coreOf_ids (es.map (·.x)) j (by simp; omega)
      have hsn := coreOf_snoc (es.map (·.x)) (j := j) (by simpa using hjl)
      rw [List.getElem_map] at hsn
      have hS : (coreOf ((es.map (·.x)).take (j + 1))).1 = applyS (coreOf ((es.map (·.x)).take j)).1 (coreOf ((es.map (·.x)).take j)).2 es[j].x := by rw [hsn]
      have hA : (coreOf ((es.map (·.x)).take (j + 1))).2 = applyI (coreOf ((es.map (·.x)).take j)).2 es[j].x := by rw [hsn]
      generalize es[j] = y at *
      obtain ⟨x, ux⟩ := y
      dsimp only at hS hA hent
      unfold entC at HIc
      have AP := Lib.hid (fun (w : World) (Z : List Ent) (h : Own W w (coPs a' (coreOf ((es.map (·.x)).take j)).1 i' (coreOf ((es.map (·.x)).take j)).2 ++ (inPs i' (coreOf ((es.map (·.x)).take j)).2 ++ Z))) => coApply_any x h (hent.into (M := Z) (fun e he => by cases he)) ok3 ok1 (by omega) hL)
      have RP := Lib.hid (fun (w : World) (X Y Z : List Ent) (h : Own W w (X ++ (Y ++ (rcB x' (coreOf ((es.map (·.x)).take j)).2 :: (N ++ Z))))) => rcApply_any (G := N) (M := X ++ (Y ++ (N ++ Z))) x (h.perm (perm_out X Y _ _)) hR (fun e he => List.mem_append_right _ (List.mem_append_right _ (List.mem_append_left _ he))) ⟨fun w' hb _ => hent.rows w' hb (fun e he => by cases he), hent.ref, hent.sku, hent.o⟩ inv ids (by omega))
      rw [← hS, ← hA, hac] at AP
      rw [← hS, ← hA, hxr] at RP
      generalize applyE (coreOf ((es.map (·.x)).take j)).1 (coreOf ((es.map (·.x)).take j)).2 x = ex at *
      have hl60 := ok4.len
      have hP6 : (coreOf ((es.map (·.x)).take (j + 1))).1.P.length ≤ 100000 := by omega
      have hsm := inv1.small
      have hbk := ok4.bk
      clear hS hA hsn ok1 ok2 ok3 hent inv ids hR ok5 ok6 inv1
      go_upto_region 8 with fail
      refine region_schedO ([]) [(0, true), (1, true), (2, true), (3, true), (4, true), (6, true), (7, true), (8, true), (9, true), (10, true), (5, false), (11, false), (12, true)] HO (List.nil_sublist _) (by kernel_rfl) (by kernel_rfl) ?_
      clear HO
      intro w HO
      repeat (first | ((with_reducible apply wpHeld_loadAt); exact rfl; exact rfl; exact rfl; exact (fun w' hw => HIc.out w' (hw _ List.mem_cons_self)); infer_instance; exact rfl; exact rfl; (simp only [Act.put, zA, zB, zC])) | ((with_reducible apply wpHeld_pure); exact rfl; exact rfl; (intro w'; go_simp; try with_reducible rfl); (simp only [Act.put, zA, zB, zC])))
      ((with_reducible apply wpHeld_loud); exact rfl; go_wp2_with ((go_at_call 27; go_must ((with_reducible refine (AP.out _ _ HO).mono ?_); clear AP HO; rintro e w ⟨rfl, u', v9, i9, -, HO⟩))))
      refine ⟨HO.heldO (List.nil_sublist _), ?_⟩
      ((with_reducible apply wpHeld_loud); exact rfl; go_wp2_with ((go_at_call 28; go_must ((have h9 := RP.out _ _ _ _ HO); (with_reducible refine h9.mono ?_); clear h9 HO; rintro e w ⟨rfl, x9, N9, hr9, HO, hR9⟩))))
      replace HO := HO.perm (perm_in _ _ _ _ _ _)
      refine ⟨HO.heldO (List.nil_sublist _), ?_⟩
      ((with_reducible apply wpHeld_pure); exact rfl; exact rfl; (intro w'; go_simp; try with_reducible rfl); (simp only [Act.put, zA, zB, zC]))
      refine wpHeld_end ?_
      replace hsm := Lib.hid hsm
      have CM := Lib.hid (fun (w : World) (L : List Ent) (h : Own W w L) (hm : ∀ e ∈ coPs ⟨a.c, v9, a'.k, u', a'.pm, a'.bm⟩ (coreOf ((es.map (·.x)).take (j + 1))).1 i9 (coreOf ((es.map (·.x)).take (j + 1))).2, e ∈ L) => coAt_sub h hm)
      have RM := Lib.hid (fun (w : World) (L : List Ent) (h : Own W w L) (hm : ∀ e ∈ N9 ++ N, e ∈ L) (hb : rcB x9 (coreOf ((es.map (·.x)).take (j + 1))).2 ∈ L) => RcIn.full hR9 h hm hb)
      have hnil1 := rowNil_of (HO.has (row 158 3 v1 (ls.map lineC)) (by simp [agPs]))
      by_cases hti : j < ts.length
      · have htI : (j : Int) < (ts.length : Int) := by omega
        obtain ⟨q2, rfl, hst2⟩ := oldAt HT.out rfl hti
        have ht1 := Lib.hid (fun w' (hb : Below W.heap.size W w') => show w'.cell? (q2.add j) = some (.int .i64 ts[j]) from by have := hst2 w' hb 0 _ rfl; rwa [Nat.mul_one, add0] at this)
        clear hst2
        generalize ts[j] = t at *
        have hk9 := Lib.hid (see_ok hk hbk t (coreOf ((es.map (·.x)).take (j + 1))).1.L.length)
        have hu9 := Lib.hid (seeL_uniq ls (seeN now t) (coreOf ((es.map (·.x)).take (j + 1))).1.P (coreOf ((es.map (·.x)).take (j + 1))).1.L.length)
        have hz60 := Nat.le_trans (seeL_len ls (seeN now t) (coreOf ((es.map (·.x)).take (j + 1))).1.P (coreOf ((es.map (·.x)).take (j + 1))).1.L.length) hl60
        have hz9 : (seeL ls (seeN now t) (coreOf ((es.map (·.x)).take (j + 1))).1.P (coreOf ((es.map (·.x)).take (j + 1))).1.L.length).length ≤ 100000 := by omega
        go_wp2_with (first | go_big_skip | ((with_reducible apply wpList_loadAt1 HO); exact rfl; exact rfl; exact (fun w' h1 => ht1.out w' h1.grown); infer_instance; exact rfl; (simp only [Act.put, zA, zB, zC])) | (go_at_call 29; go_must ((have h9 := agCopy_any (g := g) (now := now) (v := v1) (ls := ls) (Own.agAt HO (by simp [agPs]) (by simp [agPs])) hnil1 (by omega)); (with_reducible refine h9.mono ?_); clear h9; rintro e w ⟨g9, v7, rfl, HO1⟩; replace HO := HO.lift HO1; clear HO1)) | (go_at_call 30; first | ((have h9 := agSee_any (g := g) (now := now) (v := v1) (ls := ls) (a := ⟨a.c, v9, a'.k, u', a'.pm, a'.bm⟩) (S := (coreOf ((es.map (·.x)).take (j + 1))).1) (i := i9) (A := (coreOf ((es.map (·.x)).take (j + 1))).2) (M := agPs g9 now v7 ls ++ (coPs ⟨a.c, v9, a'.k, u', a'.pm, a'.bm⟩ (coreOf ((es.map (·.x)).take (j + 1))).1 i9 (coreOf ((es.map (·.x)).take (j + 1))).2 ++ (inPs i9 (coreOf ((es.map (·.x)).take (j + 1))).2 ++ (rcB x9 (coreOf ((es.map (·.x)).take (j + 1))).2 :: ((N9 ++ N) ++ raPs b8 now v2 ls))))) t (HO.perm (by classical exact List.perm_iff_count.2 (fun x9 => by simp only [ List.count_append, List.count_cons]; ac_rfl))) (fun w' L' h hm => CM.out w' L' h (fun e he => hm e (List.mem_append_right _ (List.mem_append_left _ he)))) hl60); (with_reducible refine h9.mono ?_); clear h9 HO; rintro e w ⟨v8, rfl, HO⟩) | ((have h9 := agSeeC_any (g := g9) (now := now) (v := v7) (ls := ls) (M := raPs b8 (seeN now t) v6 (seeL ls (seeN now t) (coreOf ((es.map (·.x)).take (j + 1))).1.P (coreOf ((es.map (·.x)).take (j + 1))).1.L.length) ++ (agPs g (seeN now t) v8 (seeL ls (seeN now t) (coreOf ((es.map (·.x)).take (j + 1))).1.P (coreOf ((es.map (·.x)).take (j + 1))).1.L.length) ++ (coPs ⟨a.c, v9, a'.k, u', a'.pm, a'.bm⟩ (coreOf ((es.map (·.x)).take (j + 1))).1 i9 (coreOf ((es.map (·.x)).take (j + 1))).2 ++ (inPs i9 (coreOf ((es.map (·.x)).take (j + 1))).2 ++ (rcB x9 (coreOf ((es.map (·.x)).take (j + 1))).2 :: (N9 ++ N)))))) 1099511627776 (HO.perm (by classical exact List.perm_iff_count.2 (fun x9 => by simp only [ List.count_append, List.count_cons]; ac_rfl)))); (with_reducible refine h9.mono ?_); clear h9 HO; rintro e w ⟨rfl, HO⟩)) | (go_at_call 31; go_must ((have h9 := raSee_any (r := b8) (now := now) (v := v2) (ls := ls) (x := x9) (S := (coreOf ((es.map (·.x)).take (j + 1))).1) (A := (coreOf ((es.map (·.x)).take (j + 1))).2) (M := agPs g (seeN now t) v8 (seeL ls (seeN now t) (coreOf ((es.map (·.x)).take (j + 1))).1.P (coreOf ((es.map (·.x)).take (j + 1))).1.L.length) ++ (agPs g9 now v7 ls ++ (coPs ⟨a.c, v9, a'.k, u', a'.pm, a'.bm⟩ (coreOf ((es.map (·.x)).take (j + 1))).1 i9 (coreOf ((es.map (·.x)).take (j + 1))).2 ++ (inPs i9 (coreOf ((es.map (·.x)).take (j + 1))).2 ++ (rcB x9 (coreOf ((es.map (·.x)).take (j + 1))).2 :: (N9 ++ N)))))) t (HO.perm (by classical exact List.perm_iff_count.2 (fun x9 => by simp only [ List.count_append, List.count_cons]; ac_rfl))) (fun w' L' h hm => RM.out w' L' h (fun e he => hm e (List.mem_append_right _ (List.mem_append_right _ (List.mem_append_right _ (List.mem_append_right _ (List.mem_cons_of_mem _ he)))))) (hm _ (List.mem_append_right _ (List.mem_append_right _ (List.mem_append_right _ (List.mem_append_right _ List.mem_cons_self)))))) hsm.out hP6 hl60 hu); rw [hr9] at h9; (with_reducible refine h9.mono ?_); clear h9 HO; rintro e w ⟨v6, rfl, HO⟩)))
        replace HO := HO.sub (List.sublist_append_right _ _)
        replace HO := HO.perm (L' := coPs ⟨a.c, v9, a'.k, u', a'.pm, a'.bm⟩ (coreOf ((es.map (·.x)).take (j + 1))).1 i9 (coreOf ((es.map (·.x)).take (j + 1))).2 ++ (inPs i9 (coreOf ((es.map (·.x)).take (j + 1))).2 ++ (rcB x9 (coreOf ((es.map (·.x)).take (j + 1))).2 :: ((N9 ++ N) ++ (agPs g (seeN now t) v8 (seeL ls (seeN now t) (coreOf ((es.map (·.x)).take (j + 1))).1.P (coreOf ((es.map (·.x)).take (j + 1))).1.L.length) ++ raPs b8 (seeN now t) v6 (seeL ls (seeN now t) (coreOf ((es.map (·.x)).take (j + 1))).1.P (coreOf ((es.map (·.x)).take (j + 1))).1.L.length)))))) (by classical exact List.perm_iff_count.2 (fun x9 => by simp only [ List.count_append, List.count_cons]; ac_rfl))
        have hK : ∃ (nn : Int) (zz : List LineS) (vv uu : Value), Own W w (coPs ⟨a.c, v9, a'.k, u', a'.pm, a'.bm⟩ (coreOf ((es.map (·.x)).take (j + 1))).1 i9 (coreOf ((es.map (·.x)).take (j + 1))).2 ++ (inPs i9 (coreOf ((es.map (·.x)).take (j + 1))).2 ++ (rcB x9 (coreOf ((es.map (·.x)).take (j + 1))).2 :: ((N9 ++ N) ++ (agPs g nn vv zz ++ raPs b8 nn uu zz))))) ∧ LinesOk nn zz ∧ uniqL zz ∧ zz.length ≤ 60 := ⟨seeN now t, seeL ls (seeN now t) (coreOf ((es.map (·.x)).take (j + 1))).1.P (coreOf ((es.map (·.x)).take (j + 1))).1.L.length, v8, v6, HO, hk9.out, hu9.out, hz60⟩
        clear HO hk9 hu9 hz60 hz9
        obtain ⟨nn, zz, vv, uu, HO, hk9, hu9, hz60⟩ := hK
        have hz9 : zz.length ≤ 100000 := by omega
        obtain ⟨LX, hLX⟩ : ∃ L : List Ent, L = coPs ⟨a.c, v9, a'.k, u', a'.pm, a'.bm⟩ (coreOf ((es.map (·.x)).take (j + 1))).1 i9 (coreOf ((es.map (·.x)).take (j + 1))).2 ++ (inPs i9 (coreOf ((es.map (·.x)).take (j + 1))).2 ++ (rcB x9 (coreOf ((es.map (·.x)).take (j + 1))).2 :: ((N9 ++ N) ++ (agPs g nn vv zz ++ raPs b8 nn uu zz)))) := ⟨_, rfl⟩
        rw [← hLX] at HO
        have AG := Lib.hid (fun (w : World) (h : Own W w LX) => show AgAt w g nn vv zz from Own.agAt h (by rw [hLX]; simp [agPs]) (by rw [hLX]; simp [agPs]))
        have AR := Lib.hid (show row 158 3 vv (zz.map lineC) ∈ LX from by rw [hLX]; simp [agPs])
        have RG := Lib.hid (fun (w : World) (h : Own W w LX) => show w.heap[b8]? = some (.cells #[.int .i64 nn, uu] 58) ∧ IsL w 3 uu (zz.map lineC) from ⟨h.has (box b8 (.cells #[.int .i64 nn, uu] 58)) (by rw [hLX]; simp [raPs]), isL_of_owns (lineC_len _) (h.has (row 178 3 uu (zz.map lineC)) (by rw [hLX]; simp [raPs]))⟩)
        replace hLX := Lib.hid hLX
        replace hk9 := Lib.hid hk9
        replace hu9 := Lib.hid hu9
        replace hR9 := Lib.hid hR9
        have hr3 := Lib.hid (fun (w : World) (hF : ∀ e ∈ LX, e.F w) => (old_cell (cs := [.int .i64 nn, uu]) (hF (box b8 (.cells #[.int .i64 nn, uu] 58)) (by rw [hLX.out]; simp [raPs])) 1 rfl : w.cell? ⟨b8, 1, none⟩ = some uu))
        have OA := Lib.hid (fun (n : Int) (w : World) (h : Own W w LX) => agOld_any (AG.out w h) hk9.out n hz9)
        have OB := Lib.hid (fun (n : Int) (w : World) (h : Own W w LX) => raOld_any (RG.out w h).1 (RG.out w h).2 hk9.out n hz9)
        go_loopw [13] (fun kv wr => ∃ k : Nat, k ≤ 4 ∧ kv = .int .i64 (k : Int) ∧ Own W wr LX) (fun kv _ => 5 - (intOf kv).toNat)
        case atStart => exact ⟨0, by omega, rfl, HO⟩
        case round =>
          clear HO
          obtain ⟨k, hk4, rfl, HO⟩ := hrel
          by_cases hk : k < 4
          · have hkI : (k : Int) < 4 := by omega
            have hk0 : k = 0 ∨ k = 1 ∨ k = 2 ∨ k = 3 := by omega
            rcases hk0 with rfl | rfl | rfl | rfl
            · obtain ⟨m1, m2, m3, hm⟩ := oldV_form (oldL zz nn (least))
              have O1 := Lib.hid (fun (w : World) (h : Own W w LX) => hm ▸ OA.out (least) w h)
              have O2 := Lib.hid (fun (w : World) (h : Own W w LX) => hm ▸ OB.out (least) w h)
              go_wp2_with (first | go_big_skip | (go_at_call 32; go_must ((with_reducible refine (O1.out _ HO).mono ?_); rintro e w ⟨rfl, hb⟩; replace HO := HO.call hb; clear hb)) | (go_at_call 33; go_must ((with_reducible refine (O2.out _ HO).mono ?_); rintro e w ⟨rfl, hb⟩; replace HO := HO.call hb; clear hb)))
              go_roundw
              case rel => exact ⟨1, by omega, by go_num, HO⟩
              case measure => simp [intOf] <;> omega
            · obtain ⟨m1, m2, m3, hm⟩ := oldV_form (oldL zz nn (1))
              have O1 := Lib.hid (fun (w : World) (h : Own W w LX) => hm ▸ OA.out (1) w h)
              have O2 := Lib.hid (fun (w : World) (h : Own W w LX) => hm ▸ OB.out (1) w h)
              go_wp2_with (first | go_big_skip | (go_at_call 32; go_must ((with_reducible refine (O1.out _ HO).mono ?_); rintro e w ⟨rfl, hb⟩; replace HO := HO.call hb; clear hb)) | (go_at_call 33; go_must ((with_reducible refine (O2.out _ HO).mono ?_); rintro e w ⟨rfl, hb⟩; replace HO := HO.call hb; clear hb)))
              go_roundw
              case rel => exact ⟨2, by omega, by go_num, HO⟩
              case measure => simp [intOf] <;> omega
            · obtain ⟨m1, m2, m3, hm⟩ := oldV_form (oldL zz nn (4))
              have O1 := Lib.hid (fun (w : World) (h : Own W w LX) => hm ▸ OA.out (4) w h)
              have O2 := Lib.hid (fun (w : World) (h : Own W w LX) => hm ▸ OB.out (4) w h)
              go_wp2_with (first | go_big_skip | (go_at_call 32; go_must ((with_reducible refine (O1.out _ HO).mono ?_); rintro e w ⟨rfl, hb⟩; replace HO := HO.call hb; clear hb)) | (go_at_call 33; go_must ((with_reducible refine (O2.out _ HO).mono ?_); rintro e w ⟨rfl, hb⟩; replace HO := HO.call hb; clear hb)))
              go_roundw
              case rel => exact ⟨3, by omega, by go_num, HO⟩
              case measure => simp [intOf] <;> omega
            · obtain ⟨m1, m2, m3, hm⟩ := oldV_form (oldL zz nn (9))
              have O1 := Lib.hid (fun (w : World) (h : Own W w LX) => hm ▸ OA.out (9) w h)
              have O2 := Lib.hid (fun (w : World) (h : Own W w LX) => hm ▸ OB.out (9) w h)
              go_wp2_with (first | go_big_skip | (go_at_call 32; go_must ((with_reducible refine (O1.out _ HO).mono ?_); rintro e w ⟨rfl, hb⟩; replace HO := HO.call hb; clear hb)) | (go_at_call 33; go_must ((with_reducible refine (O2.out _ HO).mono ?_); rintro e w ⟨rfl, hb⟩; replace HO := HO.call hb; clear hb)))
              go_roundw
              case rel => exact ⟨4, by omega, by go_num, HO⟩
              case measure => simp [intOf] <;> omega
          · obtain rfl : k = 4 := by omega
            clear OA OB
            go_upto_region 25 with fail
            refine region_schedO (LX) [(0, true), (2, true), (3, true), (4, true), (5, true), (1, false), (6, false), (7, true)] HO (List.Sublist.refl _) (by kernel_rfl) (by kernel_rfl) ?_
            clear HO
            intro w HO
            repeat (first | ((with_reducible apply wpHeld_loadAt1); exact rfl; exact rfl; exact rfl; exact (fun w' hw => hr3.out w' (fun e he => hw _ (List.mem_cons_of_mem _ he))); infer_instance; exact rfl; (simp only [Act.put, zA, zB, zC])) | ((with_reducible apply wpHeld_pure); exact rfl; exact rfl; (intro w'; go_simp; try with_reducible rfl); (simp only [Act.put, zA, zB, zC])))
            ((with_reducible apply wpHeld_loud); exact rfl; go_wp2_with ((go_at_call 35; go_must ((have h9 := agLines_any (AG.out _ HO) (rowNil_of (HO.has _ AR.out)) hz9); (with_reducible refine h9.mono ?_); clear h9; rintro e w ⟨v5, rfl, HO1⟩; replace HO := HO.lift HO1; clear HO1))))
            refine ⟨HO.heldO (List.sublist_append_right _ _), ?_⟩
            ((with_reducible apply wpHeld_loud); exact rfl; go_wp2_with ((go_at_call 34; go_must ((have h8 : IsL _ 3 v5 (zz.map lineC) := isL_of_owns (lineC_len _) (HO.has (row 158 3 v5 (zz.map lineC)) (List.mem_append_left _ List.mem_cons_self))); (have h7 := same30_any h8 (RG.out _ (HO.sub (List.sublist_append_right _ _))).2); (with_reducible refine h7.mono ?_); clear h7 h8; rintro e w ⟨rfl, hb⟩; replace HO := HO.call hb; clear hb))))
            refine ⟨HO.heldO (List.sublist_append_right _ _), ?_⟩
            repeat ((with_reducible apply wpHeld_pure); exact rfl; exact rfl; (intro w'; go_simp; try with_reducible rfl); (simp only [Act.put, zA, zB, zC]))
            refine wpHeld_end ?_
            go_wp2_with fail
            replace HO := HO.sub (List.sublist_append_right _ _)
            rw [hLX.out] at HO
            go_roundw
            case rel => exact ⟨j + 1, ⟨a.c, v9, a'.k, u', a'.pm, a'.bm⟩, i9, x9, (N9 ++ N), nn, zz, vv, uu, by omega, by go_num, rfl, hr9, hR9.out, hk9.out, hu9.out, hz60, HO⟩
            case measure => simp [intOf] <;> omega
      · have htI : ¬ ((j : Int) < (ts.length : Int)) := by omega
        have hk9 := Lib.hid hk
        have hu9 := Lib.hid hu
        have hz60 := hz
        have hz9 : ls.length ≤ 100000 := by omega
        go_wp2_with fail
        have hK : ∃ (nn : Int) (zz : List LineS) (vv uu : Value), Own W w (coPs ⟨a.c, v9, a'.k, u', a'.pm, a'.bm⟩ (coreOf ((es.map (·.x)).take (j + 1))).1 i9 (coreOf ((es.map (·.x)).take (j + 1))).2 ++ (inPs i9 (coreOf ((es.map (·.x)).take (j + 1))).2 ++ (rcB x9 (coreOf ((es.map (·.x)).take (j + 1))).2 :: ((N9 ++ N) ++ (agPs g nn vv zz ++ raPs b8 nn uu zz))))) ∧ LinesOk nn zz ∧ uniqL zz ∧ zz.length ≤ 60 := ⟨now, ls, v1, v2, HO, hk9.out, hu9.out, hz60⟩
        clear HO hk9 hu9 hz60 hz9
        obtain ⟨nn, zz, vv, uu, HO, hk9, hu9, hz60⟩ := hK
        have hz9 : zz.length ≤ 100000 := by omega
        obtain ⟨LX, hLX⟩ : ∃ L : List Ent, L = coPs ⟨a.c, v9, a'.k, u', a'.pm, a'.bm⟩ (coreOf ((es.map (·.x)).take (j + 1))).1 i9 (coreOf ((es.map (·.x)).take (j + 1))).2 ++ (inPs i9 (coreOf ((es.map (·.x)).take (j + 1))).2 ++ (rcB x9 (coreOf ((es.map (·.x)).take (j + 1))).2 :: ((N9 ++ N) ++ (agPs g nn vv zz ++ raPs b8 nn uu zz)))) := ⟨_, rfl⟩
        rw [← hLX] at HO
        have AG := Lib.hid (fun (w : World) (h : Own W w LX) => show AgAt w g nn vv zz from Own.agAt h (by rw [hLX]; simp [agPs]) (by rw [hLX]; simp [agPs]))
        have AR := Lib.hid (show row 158 3 vv (zz.map lineC) ∈ LX from by rw [hLX]; simp [agPs])
        have RG := Lib.hid (fun (w : World) (h : Own W w LX) => show w.heap[b8]? = some (.cells #[.int .i64 nn, uu] 58) ∧ IsL w 3 uu (zz.map lineC) from ⟨h.has (box b8 (.cells #[.int .i64 nn, uu] 58)) (by rw [hLX]; simp [raPs]), isL_of_owns (lineC_len _) (h.has (row 178 3 uu (zz.map lineC)) (by rw [hLX]; simp [raPs]))⟩)
        replace hLX := Lib.hid hLX
        replace hk9 := Lib.hid hk9
        replace hu9 := Lib.hid hu9
        replace hR9 := Lib.hid hR9
        have hr3 := Lib.hid (fun (w : World) (hF : ∀ e ∈ LX, e.F w) => (old_cell (cs := [.int .i64 nn, uu]) (hF (box b8 (.cells #[.int .i64 nn, uu] 58)) (by rw [hLX.out]; simp [raPs])) 1 rfl : w.cell? ⟨b8, 1, none⟩ = some uu))
        have OA := Lib.hid (fun (n : Int) (w : World) (h : Own W w LX) => agOld_any (AG.out w h) hk9.out n hz9)
        have OB := Lib.hid (fun (n : Int) (w : World) (h : Own W w LX) => raOld_any (RG.out w h).1 (RG.out w h).2 hk9.out n hz9)
        go_loopw [13] (fun kv wr => ∃ k : Nat, k ≤ 4 ∧ kv = .int .i64 (k : Int) ∧ Own W wr LX) (fun kv _ => 5 - (intOf kv).toNat)
        case atStart => exact ⟨0, by omega, rfl, HO⟩
        case round =>
          clear HO
          obtain ⟨k, hk4, rfl, HO⟩ := hrel
          by_cases hk : k < 4
          · have hkI : (k : Int) < 4 := by omega
            have hk0 : k = 0 ∨ k = 1 ∨ k = 2 ∨ k = 3 := by omega
            rcases hk0 with rfl | rfl | rfl | rfl
            · obtain ⟨m1, m2, m3, hm⟩ := oldV_form (oldL zz nn (least))
              have O1 := Lib.hid (fun (w : World) (h : Own W w LX) => hm ▸ OA.out (least) w h)
              have O2 := Lib.hid (fun (w : World) (h : Own W w LX) => hm ▸ OB.out (least) w h)
              go_wp2_with (first | go_big_skip | (go_at_call 32; go_must ((with_reducible refine (O1.out _ HO).mono ?_); rintro e w ⟨rfl, hb⟩; replace HO := HO.call hb; clear hb)) | (go_at_call 33; go_must ((with_reducible refine (O2.out _ HO).mono ?_); rintro e w ⟨rfl, hb⟩; replace HO := HO.call hb; clear hb)))
              go_roundw
              case rel => exact ⟨1, by omega, by go_num, HO⟩
              case measure => simp [intOf] <;> omega
            · obtain ⟨m1, m2, m3, hm⟩ := oldV_form (oldL zz nn (1))
              have O1 := Lib.hid (fun (w : World) (h : Own W w LX) => hm ▸ OA.out (1) w h)
              have O2 := Lib.hid (fun (w : World) (h : Own W w LX) => hm ▸ OB.out (1) w h)
              go_wp2_with (first | go_big_skip | (go_at_call 32; go_must ((with_reducible refine (O1.out _ HO).mono ?_); rintro e w ⟨rfl, hb⟩; replace HO := HO.call hb; clear hb)) | (go_at_call 33; go_must ((with_reducible refine (O2.out _ HO).mono ?_); rintro e w ⟨rfl, hb⟩; replace HO := HO.call hb; clear hb)))
              go_roundw
              case rel => exact ⟨2, by omega, by go_num, HO⟩
              case measure => simp [intOf] <;> omega
            · obtain ⟨m1, m2, m3, hm⟩ := oldV_form (oldL zz nn (4))
              have O1 := Lib.hid (fun (w : World) (h : Own W w LX) => hm ▸ OA.out (4) w h)
              have O2 := Lib.hid (fun (w : World) (h : Own W w LX) => hm ▸ OB.out (4) w h)
              go_wp2_with (first | go_big_skip | (go_at_call 32; go_must ((with_reducible refine (O1.out _ HO).mono ?_); rintro e w ⟨rfl, hb⟩; replace HO := HO.call hb; clear hb)) | (go_at_call 33; go_must ((with_reducible refine (O2.out _ HO).mono ?_); rintro e w ⟨rfl, hb⟩; replace HO := HO.call hb; clear hb)))
              go_roundw
              case rel => exact ⟨3, by omega, by go_num, HO⟩
              case measure => simp [intOf] <;> omega
            · obtain ⟨m1, m2, m3, hm⟩ := oldV_form (oldL zz nn (9))
              have O1 := Lib.hid (fun (w : World) (h : Own W w LX) => hm ▸ OA.out (9) w h)
              have O2 := Lib.hid (fun (w : World) (h : Own W w LX) => hm ▸ OB.out (9) w h)
              go_wp2_with (first | go_big_skip | (go_at_call 32; go_must ((with_reducible refine (O1.out _ HO).mono ?_); rintro e w ⟨rfl, hb⟩; replace HO := HO.call hb; clear hb)) | (go_at_call 33; go_must ((with_reducible refine (O2.out _ HO).mono ?_); rintro e w ⟨rfl, hb⟩; replace HO := HO.call hb; clear hb)))
              go_roundw
              case rel => exact ⟨4, by omega, by go_num, HO⟩
              case measure => simp [intOf] <;> omega
          · obtain rfl : k = 4 := by omega
            clear OA OB
            go_upto_region 25 with fail
            refine region_schedO (LX) [(0, true), (2, true), (3, true), (4, true), (5, true), (1, false), (6, false), (7, true)] HO (List.Sublist.refl _) (by kernel_rfl) (by kernel_rfl) ?_
            clear HO
            intro w HO
            repeat (first | ((with_reducible apply wpHeld_loadAt1); exact rfl; exact rfl; exact rfl; exact (fun w' hw => hr3.out w' (fun e he => hw _ (List.mem_cons_of_mem _ he))); infer_instance; exact rfl; (simp only [Act.put, zA, zB, zC])) | ((with_reducible apply wpHeld_pure); exact rfl; exact rfl; (intro w'; go_simp; try with_reducible rfl); (simp only [Act.put, zA, zB, zC])))
            ((with_reducible apply wpHeld_loud); exact rfl; go_wp2_with ((go_at_call 35; go_must ((have h9 := agLines_any (AG.out _ HO) (rowNil_of (HO.has _ AR.out)) hz9); (with_reducible refine h9.mono ?_); clear h9; rintro e w ⟨v5, rfl, HO1⟩; replace HO := HO.lift HO1; clear HO1))))
            refine ⟨HO.heldO (List.sublist_append_right _ _), ?_⟩
            ((with_reducible apply wpHeld_loud); exact rfl; go_wp2_with ((go_at_call 34; go_must ((have h8 : IsL _ 3 v5 (zz.map lineC) := isL_of_owns (lineC_len _) (HO.has (row 158 3 v5 (zz.map lineC)) (List.mem_append_left _ List.mem_cons_self))); (have h7 := same30_any h8 (RG.out _ (HO.sub (List.sublist_append_right _ _))).2); (with_reducible refine h7.mono ?_); clear h7 h8; rintro e w ⟨rfl, hb⟩; replace HO := HO.call hb; clear hb))))
            refine ⟨HO.heldO (List.sublist_append_right _ _), ?_⟩
            repeat ((with_reducible apply wpHeld_pure); exact rfl; exact rfl; (intro w'; go_simp; try with_reducible rfl); (simp only [Act.put, zA, zB, zC]))
            refine wpHeld_end ?_
            go_wp2_with fail
            replace HO := HO.sub (List.sublist_append_right _ _)
            rw [hLX.out] at HO
            go_roundw
            case rel => exact ⟨j + 1, ⟨a.c, v9, a'.k, u', a'.pm, a'.bm⟩, i9, x9, (N9 ++ N), nn, zz, vv, uu, by omega, by go_num, rfl, hr9, hR9.out, hk9.out, hu9.out, hz60, HO⟩
            case measure => simp [intOf] <;> omega
    · obtain rfl : j = es.length := by omega
      obtain ⟨LX, hLX⟩ : ∃ L : List Ent, L = coPs a' (coreOf ((es.map (·.x)).take es.length)).1 i' (coreOf ((es.map (·.x)).take es.length)).2 ++ (inPs i' (coreOf ((es.map (·.x)).take es.length)).2 ++ (rcB x' (coreOf ((es.map (·.x)).take es.length)).2 :: (N ++ (agPs g now v1 ls ++ raPs b8 now v2 ls)))) := ⟨_, rfl⟩
      rw [← hLX] at HO
      have AG := Lib.hid (fun (w : World) (h : Own W w LX) => show AgAt w g now v1 ls from Own.agAt h (by rw [hLX]; simp [agPs]) (by rw [hLX]; simp [agPs]))
      have AR := Lib.hid (show row 158 3 v1 (ls.map lineC) ∈ LX from by rw [hLX]; simp [agPs])
      have hr3 := Lib.hid (fun (w : World) (hF : ∀ e ∈ LX, e.F w) => (old_cell (cs := [.int .i64 now, v2]) (hF (box b8 (.cells #[.int .i64 now, v2] 58)) (by rw [hLX]; simp [raPs])) 1 rfl : w.cell? ⟨b8, 1, none⟩ = some v2))
      have RG := Lib.hid (fun (w : World) (h : Own W w LX) => show IsL w 3 v2 (ls.map lineC) from isL_of_owns (lineC_len _) (h.has (row 178 3 v2 (ls.map lineC)) (by rw [hLX]; simp [raPs])))
      have hz9 : ls.length ≤ 100000 := by omega
      clear hLX hk hu hR
      go_upto_region 27 with fail
      refine region_schedO (LX) [(0, true), (3, true), (4, true), (5, true), (6, true), (1, false), (2, false), (7, false), (8, true), (9, false), (10, true), (11, true)] HO (List.Sublist.refl _) (by kernel_rfl) (by kernel_rfl) ?_
      clear HO
      intro w HO
      repeat (first | ((with_reducible apply wpHeld_loadAt1); exact rfl; exact rfl; exact rfl; exact (fun w' hw => hr3.out w' (fun e he => hw _ (List.mem_cons_of_mem _ he))); infer_instance; exact rfl; (simp only [Act.put, zA, zB, zC])) | ((with_reducible apply wpHeld_pure); exact rfl; exact rfl; (intro w'; go_simp; try with_reducible rfl); (simp only [Act.put, zA, zB, zC])))
      ((with_reducible apply wpHeld_loud); exact rfl; go_wp2_with ((go_at_call 29; go_must ((have h9 := agCopy_any (AG.out _ HO) (rowNil_of (HO.has _ AR.out)) hz9); (with_reducible refine h9.mono ?_); clear h9; rintro e w ⟨g9, v7, rfl, HO1⟩; replace HO := HO.lift HO1; clear HO1))))
      refine ⟨HO.heldO (List.sublist_append_right _ _), ?_⟩
      ((with_reducible apply wpHeld_loud); exact rfl; go_wp2_with ((go_at_call 35; go_must ((have h9 := agLines_any (g := g9) (now := now) (v := v7) (ls := ls) (Own.agAt HO (by simp [agPs]) (by simp [agPs])) (rowNil_of (HO.has (row 158 3 v7 (ls.map lineC)) (by simp [agPs]))) hz9); (with_reducible refine h9.mono ?_); clear h9; rintro e w ⟨v5, rfl, HO1⟩; replace HO := HO.lift HO1; clear HO1))))
      refine ⟨HO.heldO ((List.sublist_append_right _ _).trans (List.sublist_append_right _ _)), ?_⟩
      ((with_reducible apply wpHeld_loud); exact rfl; go_wp2_with ((go_at_call 34; go_must ((have h8 : IsL _ 3 v5 (ls.map lineC) := isL_of_owns (lineC_len _) (HO.has (row 158 3 v5 (ls.map lineC)) (List.mem_append_left _ List.mem_cons_self))); (have h7 := same30_any h8 (RG.out _ (HO.sub ((List.sublist_append_right _ _).trans (List.sublist_append_right _ _))))); (with_reducible refine h7.mono ?_); clear h7 h8; rintro e w ⟨rfl, hb⟩; replace HO := HO.call hb; clear hb))))
      refine ⟨HO.heldO ((List.sublist_append_right _ _).trans (List.sublist_append_right _ _)), ?_⟩
      repeat ((with_reducible apply wpHeld_pure); exact rfl; exact rfl; (intro w'; go_simp; try with_reducible rfl); (simp only [Act.put, zA, zB, zC]))
      ((with_reducible apply wpHeld_loud); exact rfl; go_wp2_with ((go_at_call 23; go_must ((with_reducible refine (AD _ HO.grown).mono ?_); rintro e w ⟨rfl, hb⟩; replace HO := HO.call hb; clear hb))))
      refine ⟨HO.heldO ((List.sublist_append_right _ _).trans (List.sublist_append_right _ _)), ?_⟩
      repeat ((with_reducible apply wpHeld_pure); exact rfl; exact rfl; (intro w'; go_simp; try with_reducible rfl); (simp only [Act.put, zA, zB, zC]))
      refine wpHeld_end ?_
      go_wp2_with fail
      go_ret
      exact ⟨rfl, HO.grown⟩
end Go.Proofs.YtibabfedpdoofaaGreatDoor
namespace Go.Proofs.YtibabfedpdoofaaGreatDoor
open Go.RowKit Go.Own Go.ChangeShapes Go.WideShapes Go.ChangeAt

set_option maxRecDepth 100000 in
theorem ints_of {H : Type} {enc : TypeId × Value → H} {W : World} {base : Nat} {spare : Nat → Bool} {held : Bool} {v : Value} {d : DataW H} {p : List MemPlace}
    (h : DataW.Trod enc Tryz.prog W base spare held 49 v d p) (hv : v.cells.toList = [v]) : ∃ ts : List Int, IsL W 1 v (ts.map fun t => [Value.int .i64 t]) := by
  obtain ⟨fuel, hf⟩ := h
  obtain ⟨u, ns, e, hI, hw⟩ := slice_of (fun (t : Int) => [Value.int .i64 t]) (fun _ => True) Tryz.underlying49 cellsInt (by decide) (fun _ => rfl) (fun fuel' cs x hx hl => by
    obtain ⟨n, e, _, hwf⟩ := DataW.trod_int Tryz.underlying3 hx
    refine ⟨n, ?_, trivial⟩
    match cs, hl with
    | [c], _ => simpa using e) hf
  rw [hv] at e
  obtain rfl : v = u := by simpa using e
  exact ⟨ns, hI⟩
end Go.Proofs.YtibabfedpdoofaaGreatDoor

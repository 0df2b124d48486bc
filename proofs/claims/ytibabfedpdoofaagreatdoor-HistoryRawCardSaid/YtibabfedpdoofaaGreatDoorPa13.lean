/-
  The document's waits: one stopped, put in its place, due, by walking its text; conditions: the waits lie in memory, the key may be.
  The document's core copied, its model, the entry that places an order, the entry of a line, by walking its texts; conditions: the core is one that entries come to.
-/
import Derived.Test.YtibabfedpdoofaaGreatDoorPa1
import Derived.Test.YtibabfedpdoofaaGreatDoorPa12
namespace Go.Own
open Go.RowKit
theorem own_form {W w : World} {L : List Ent} {t k : Nat} {v : Value} {A : List (List Value)} (hO : Own W w L) (hm : row t k v A ∈ L) : (v = .slice none 0 0 ∧ A = []) ∨ ∃ g c, v = .slice (some ⟨g, 0, none⟩) A.length c ∧ A.length ≤ c ∧ c ≤ maxLen := by
  have hF : w.ownsRow 0 t k v A.length A.flatten := hO.has _ hm
  rcases hF.2 with ⟨rfl, h0⟩ | ⟨g, cap, cur, rfl, _, _, h1, h2, _⟩
  · exact .inl ⟨rfl, List.eq_nil_of_length_eq_zero (by simpa using h0)⟩
  · exact .inr ⟨g, cap, rfl, h1, h2⟩
end Go.Own
namespace Go.Proofs.YtibabfedpdoofaaGreatDoor
open Go.RowKit Go.Own Go.Maps

structure WtS where
  o : Int
  d : Int
  t : Int
  n : Int
  p : Bool
def wtC (x : WtS) : List Value := [.int .i64 x.o, .int .i64 x.d, .int .i64 x.t, .int .i64 x.n, .bool x.p]
theorem wtC_len (l : List WtS) : ∀ x ∈ l.map wtC, x.length = 5 := fun x hx => by
  obtain ⟨y, _, rfl⟩ := List.mem_map.1 hx
  rfl
theorem wtC_one (l : List WtS) : ∀ u ∈ (l.map wtC).flatten, u.oneCell' = true := by
  intro u hu
  obtain ⟨x, hx, hu⟩ := List.mem_flatten.1 hu
  obtain ⟨p, _, rfl⟩ := List.mem_map.1 hx
  simp only [wtC, List.mem_cons, List.not_mem_nil, or_false] at hu
  rcases hu with rfl | rfl | rfl | rfl | rfl <;> rfl

set_option maxHeartbeats 8000000 in
set_option maxRecDepth 100000 in
theorem wtStop_any {W : World} {v : Value} {l : List WtS} (h : IsL W 5 v (l.map wtC)) (o d : Int) (hl : l.length ≤ 1000) : Calls Tryz.prog 208 #[v, .agg #[.int .i64 o, .int .i64 d]] W fun e w' =>
    ∃ (v' : Value) (l' : List WtS), e = .returned v' ∧ l'.length ≤ l.length ∧ Own W w' [row 276 5 v' (l'.map wtC)] := by
  have HO := Own.start W
  obtain ⟨p, c, rfl, hmx⟩ := h.slice
  rw [List.length_map] at hmx h ⊢
  have HR := Lib.hid h
  clear h
  replace HO := HO.nil 276 5
  go_enter Tryz.func208, Tryz.ntmps208
  go_wp2_with ((((with_reducible apply wpList_boxAgg _ HO rfl); exact rfl; exact rfl; exact rfl; clear HO; intro b3 w HO; (simp only [Act.put, zA, zB, zC]))))
  go_loopw [5, 6] (fun ov iv wr => ∃ (j : Nat) (l' : List WtS), j ≤ l.length ∧ iv = .int .i64 (j : Int) ∧ l'.length ≤ j ∧ Own W wr [row 276 5 ov (l'.map wtC), box b3 (.cells #[.int .i64 o, .int .i64 d] 29)]) (fun _ iv _ => l.length - (intOf iv).toNat)
  case atStart => exact ⟨0, [], by omega, rfl, by simp, HO.swap⟩
  case round =>
    clear HO
    obtain ⟨j, l', hj, rfl, hl', HO⟩ := hrel
    obtain ⟨⟨p8, c8, rfl⟩, -⟩ := HO.rowForm (.head _)
    simp only [List.length_map] at HO ⊢
    by_cases hjl : j < l.length
    · have hjI : (j : Int) < (l.length : Int) := by omega
      obtain ⟨q, rfl, hst⟩ := oldAt HR.out rfl hjl
      generalize l[j] = y at *
      have HKEY := Lib.hid (fun (w' : World) (hb : Below W.heap.size W w') (jj : Nat) (u : Value) (hu : [Value.int .i64 y.o, .int .i64 y.d][jj]? = some u) => hst w' hb jj u (by
        rw [show wtC y = [Value.int .i64 y.o, .int .i64 y.d] ++ [.int .i64 y.t, .int .i64 y.n, .bool y.p] from rfl, List.getElem?_append_left (List.getElem?_eq_some_iff.1 hu).1]
        exact hu))
      have hq := fun w => run_key_neq y.o y.d o d w
      obtain ⟨yo, yd, yt, yn, yp⟩ := y
      unfold wtC at hst
      simp only at hst hq HKEY
      replace hst := Lib.hid hst
      generalize (decide (yo = o) && decide (yd = d)) = B at *
      have hKm : (l'.map wtC).length + 1 ≤ 1000000 := by rw [List.length_map]; omega
      have hKn : l'.length + 1 ≤ 1000000 := by omega
      cases B with
      | true =>
        simp only [Bool.not_true] at hq
        go_upto_region 5 with (fail)
        refine region_own HO (by kernel_rfl) (by kernel_rfl) ?_
        clear HO
        intro F HF
        repeat (first | (first | ((with_reducible apply wpQuiet_loadAt HF); exact rfl; exact rfl; exact (fun w' h1 => HKEY.out w' h1.grown); infer_instance; exact rfl; exact rfl; (simp only [Act.put, zA, zB, zC])) | (((with_reducible apply wpQuiet_loadAll HF); exact rfl; exact rfl; (repeat (with_reducible (first | exact At.head _ | apply At.tail))); infer_instance; exact rfl; exact rfl; (simp only [Act.put, zA, zB, zC])))) | go_big_quiet_step (fail))
        refine wpQuiet_nil ?_
        intro x
        have HO := HF.own x
        clear HF
        generalize F x = w at *
        clear x F
        go_wp2_with fail
        go_roundw
        case rel => exact ⟨j + 1, l', by omega, by go_num, by omega, HO⟩
        case measure => simp [intOf] <;> omega
      | false =>
        simp only [Bool.not_false] at hq
        go_upto_region 5 with (fail)
        refine region_own HO (by kernel_rfl) (by kernel_rfl) ?_
        clear HO
        intro F HF
        repeat (first | (first | ((with_reducible apply wpQuiet_loadAt HF); exact rfl; exact rfl; exact (fun w' h1 => HKEY.out w' h1.grown); infer_instance; exact rfl; exact rfl; (simp only [Act.put, zA, zB, zC])) | (((with_reducible apply wpQuiet_loadAll HF); exact rfl; exact rfl; (repeat (with_reducible (first | exact At.head _ | apply At.tail))); infer_instance; exact rfl; exact rfl; (simp only [Act.put, zA, zB, zC])))) | go_big_quiet_step (fail))
        refine wpQuiet_nil ?_
        intro x
        have HO := HF.own x
        clear HF
        generalize F x = w at *
        clear x F
        go_wp2_with (first | ((with_reducible apply wpList_loadAt HO); exact rfl; exact rfl; exact (fun w' h1 => hst.out w' h1.grown); infer_instance; exact rfl; exact rfl; (simp only [Act.put, zA, zB, zC])) | (((with_reducible apply wpList_lit1 HO); exact rfl; infer_instance; infer_instance; exact rfl; exact rfl; exact (by decide); exact rfl; clear HO; intro bl w HO; (simp only [Act.put, zA, zB, zC]))) | ((with_reducible apply wpList_push1 HO); exact rfl; infer_instance; infer_instance; ((simp [Act.eval]; rfl)); exact rfl; intro _; (repeat (with_reducible (exact At.head _))); exact rfl; exact rfl; (omega); decide; exact rfl; clear HO; intro v2 w HO hv2; (simp only [Act.put, zA, zB, zC])))
        go_roundw
        case rel => exact ⟨j + 1, l' ++ [⟨yo, yd, yt, yn, yp⟩], by omega, by go_num, by simp; omega, by rw [List.map_append]; exact HO⟩
        case measure => simp [intOf] <;> omega
    · obtain rfl : j = l.length := by omega
      go_wp2_with fail
      go_ret
      exact ⟨.slice p8 l'.length c8, l', rfl, by omega, HO.sub (by with_reducible (repeat (first | exact List.nil_sublist _ | apply List.Sublist.cons_cons)))⟩

set_option maxHeartbeats 16000000 in
set_option maxRecDepth 100000 in
theorem wtPut_any {W : World} {v : Value} {l : List WtS} (h : IsL W 5 v (l.map wtC)) (x : WtS) (hk : keyOk x.o x.d = true) (hl : l.length ≤ 1000) : Calls Tryz.prog 201 #[v, .agg (wtC x).toArray] W fun e w' =>
    ∃ (v' : Value) (l' : List WtS), e = .returned v' ∧ l'.length ≤ l.length + 1 ∧ Own W w' [row 276 5 v' (l'.map wtC)] := by
  have HO := Own.start W
  have KC := fun w => refKeyCheck_any x.o x.d w
  rw [hk] at KC
  have ST := Lib.hid (fun (w : World) (hb : Below W.heap.size W w) => wtStop_any (h.below hb h.lt) x.o x.d hl)
  obtain ⟨p, c, rfl, hmx⟩ := h.slice
  rw [List.length_map] at hmx ⊢
  rw [List.length_map] at ST
  clear h hk
  have HX := Lib.hid (show wtC x = wtC x from rfl)
  obtain ⟨xo, xd, xt, xn, xp⟩ := x
  unfold wtC at HX
  simp only [wtC] at KC ST HX ⊢
  go_enter Tryz.func201, Tryz.ntmps201
  go_wp2_with (first | (((with_reducible apply wpList_boxAgg _ HO rfl); exact rfl; exact rfl; exact rfl; clear HO; intro b3 w HO; (simp only [Act.put, zA, zB, zC]))) | ((with_reducible apply wpList_loadPart HO); exact rfl; exact rfl; (repeat (with_reducible (exact At.head _))); infer_instance; exact (Nat.le_of_ble_eq_true rfl); (simp only [List.drop_zero, List.take_succ_cons, List.take_zero]; rfl); exact rfl; (simp only [Act.put, zA, zB, zC])) | (go_at_call 161; go_must ((with_reducible refine (KC _).mono ?_); rintro e w ⟨rfl, hb⟩; replace HO := HO.call hb; clear hb)) | (go_at_call 208; go_must ((with_reducible refine (ST.out _ HO.grown).mono ?_); rintro e w ⟨v8, l8, rfl, hl8, HO1⟩; replace HO := HO.lift HO1; clear HO1 ST)))
  simp only [List.cons_append, List.nil_append] at HO
  have HWL := Lib.hid (wtC_len l8)
  have HW1 := Lib.hid (wtC_one l8)
  have HTL := Lib.hid (fun k => wtC_len (l8.take k))
  have HT1 := Lib.hid (fun k => wtC_one (l8.take k))
  have HDL := Lib.hid (fun k => wtC_len (l8.drop k))
  have HD1 := Lib.hid (fun k => wtC_one (l8.drop k))
  obtain ⟨n8, hn8⟩ : ∃ n8, n8 = l8.length := ⟨_, rfl⟩
  obtain ⟨s8, c8, rfl, hc8, hs8⟩ : ∃ s8 c8, v8 = .slice s8 n8 c8 ∧ (n8 ≤ c8) ∧ (s8 = none → n8 = 0 ∧ c8 = 0) := by
    rcases own_form HO (.head _) with ⟨rfl, h0⟩ | ⟨g, c9, rfl, h1, -⟩
    · exact ⟨none, 0, by rw [hn8, show l8 = [] by simpa using h0]; rfl, by rw [hn8, show l8 = [] by simpa using h0]; simp, fun _ => ⟨by rw [hn8, show l8 = [] by simpa using h0]; rfl, rfl⟩⟩
    · rw [List.length_map] at h1 ⊢
      exact ⟨_, c9, by rw [hn8], by omega, fun e => by cases e⟩
  have HN8 := Lib.hid hn8
  have hn9 : n8 ≤ 1000 := by omega
  have hn10 : n8 ≤ l.length := by omega
  have HR := Lib.hid (fun (w' : World) (L' : List Ent) (h1 : Own W w' L') (hm : row 276 5 (.slice s8 n8 c8) (l8.map wtC) ∈ L') => isL_of_owns (wtC_len l8) (h1.has _ hm))
  clear hn8 hl8
  go_loopw [5] (fun iv wr => ∃ j : Nat, j ≤ n8 ∧ iv = .int .i64 (j : Int) ∧ Own W wr [row 276 5 (.slice s8 n8 c8) (l8.map wtC), box b3 (.cells #[.int .i64 xo, .int .i64 xd, .int .i64 xt, .int .i64 xn, .bool xp] 276)]) (fun iv _ => n8 - (intOf iv).toNat)
  case atStart => exact ⟨0, by omega, rfl, HO⟩
  case round =>
    clear HO
    obtain ⟨j, hj, rfl, HO⟩ := hrel
    have HE := Lib.hid (show ((([] : List (List Value)) ++ (l8.take j).map wtC) ++ [[Value.int .i64 xo, .int .i64 xd, .int .i64 xt, .int .i64 xn, .bool xp]]) ++ (l8.drop j).map wtC = (l8.take j ++ [(⟨xo, xd, xt, xn, xp⟩ : WtS)] ++ l8.drop j).map wtC by simp [wtC])
    have HLE := Lib.hid (show (l8.take j ++ [(⟨xo, xd, xt, xn, xp⟩ : WtS)] ++ l8.drop j).length ≤ l.length + 1 by
      have := HN8.out
      simp only [List.length_append, List.length_take, List.length_drop, List.length_cons, List.length_nil]; omega)
    have g1 : ([] : List (List Value)).length + ((l8.take j).map wtC).length ≤ 1000000 := by
      have := HN8.out
      simp only [List.length_map, List.length_take, List.length_nil]; omega
    have g2 : (([] : List (List Value)) ++ (l8.take j).map wtC).length + 1 ≤ 1000000 := by
      have := HN8.out
      simp only [List.nil_append, List.length_map, List.length_take]; omega
    have g3 : ((([] : List (List Value)) ++ (l8.take j).map wtC) ++ [[Value.int .i64 xo, .int .i64 xd, .int .i64 xt, .int .i64 xn, .bool xp]]).length + ((l8.drop j).map wtC).length ≤ 1000000 := by
      have := HN8.out
      simp only [List.nil_append, List.length_append, List.length_map, List.length_take, List.length_drop, List.length_cons, List.length_nil]; omega
    by_cases hjl : j < n8
    · have hjI : (j : Int) < (n8 : Int) := by omega
      obtain ⟨q, rfl⟩ : ∃ q, s8 = some q := by
        cases s8 with
        | none => have := (hs8 rfl).1; omega
        | some q => exact ⟨q, rfl⟩
      clear hs8
      have HT := Lib.hid (fun (w' : World) (L' : List Ent) (h1 : Own W w' L') (hm : row 276 5 (.slice (some q) n8 c8) (l8.map wtC) ∈ L') => show IsL w' 5 (.slice (some q) j c8) ((l8.take j).map wtC) by
        rw [List.map_take]; exact (HR.out w' L' h1 hm).take (by omega))
      have HD := Lib.hid (fun (w' : World) (L' : List Ent) (h1 : Own W w' L') (hm : row 276 5 (.slice (some q) n8 c8) (l8.map wtC) ∈ L') => show IsL w' 5 (.slice (some (q.add (j * 5))) (n8 - j) (c8 - j)) ((l8.drop j).map wtC) by
        rw [List.map_drop]; exact (HR.out w' L' h1 hm).drop (by omega))
      have hj8 : j < l8.length := by rw [← HN8.out]; exact hjl
      have HK2 := fun (w' : World) (L' : List Ent) (h1 : Own W w' L') (hm : row 276 5 (.slice (some q) n8 c8) (l8.map wtC) ∈ L') => cellH (HR.out w' L' h1 hm) (j := j) (by simpa using hj8)
      simp only [List.getElem_map] at HK2
      generalize l8[j] = y at *
      have HKEY := Lib.hid (fun (w' : World) (L' : List Ent) (h1 : Own W w' L') (hm : row 276 5 (.slice (some q) n8 c8) (l8.map wtC) ∈ L') (jj : Nat) (u : Value) (hu : [Value.int .i64 y.o, .int .i64 y.d][jj]? = some u) => HK2 w' L' h1 hm jj u (by
        rw [show wtC y = [Value.int .i64 y.o, .int .i64 y.d] ++ [.int .i64 y.t, .int .i64 y.n, .bool y.p] from rfl, List.getElem?_append_left (List.getElem?_eq_some_iff.1 hu).1]
        exact hu))
      have LS := fun w => refLess_any y.o y.d xo xd w
      obtain ⟨yo, yd, yt, yn, yp⟩ := y
      simp only at LS HKEY
      clear HK2 hj8
      have hcp1 : (j : Int) ≤ (c8 : Int) := by omega
      have hcp2 : (n8 : Int) ≤ (c8 : Int) := by omega
      have hcp3 : (j : Int) ≤ (n8 : Int) := by omega
      have hcp4 : ¬ c8 = j := by omega
      generalize keyLess yo yd xo xd = B at *
      cases B with
      | true =>
        clear HT HD HE HLE
        go_upto_region 5 with fail
        refine region_own HO (by kernel_rfl) (by kernel_rfl) ?_
        clear HO
        intro F HF
        repeat (first | (first | ((with_reducible apply wpQuiet_loadAt HF); exact rfl; exact rfl; exact (fun w' h1 => HKEY.out w' _ h1 (.head _)); infer_instance; exact rfl; exact rfl; (simp only [Act.put, zA, zB, zC])) | (((with_reducible apply wpQuiet_loadPart HF); exact rfl; exact rfl; (repeat (with_reducible (first | exact At.head _ | apply At.tail))); infer_instance; exact (Nat.le_of_ble_eq_true rfl); (simp only [List.drop_zero, List.take_succ_cons, List.take_zero]; rfl); exact rfl; (simp only [Act.put, zA, zB, zC])))) | go_big_quiet_step ((go_at_call 177; (with_reducible exact calls_fam HF (LS _)))))
        refine wpQuiet_nil ?_
        intro x
        have HO := HF.own x
        clear HF
        generalize F x = w at *
        clear x F
        go_wp2_with fail
        go_roundw
        case rel => exact ⟨j + 1, by omega, by go_num, HO⟩
        case measure => simp [intOf] <;> omega
      | false =>
        go_upto_region 5 with fail
        refine region_own HO (by kernel_rfl) (by kernel_rfl) ?_
        clear HO
        intro F HF
        repeat (first | (first | ((with_reducible apply wpQuiet_loadAt HF); exact rfl; exact rfl; exact (fun w' h1 => HKEY.out w' _ h1 (.head _)); infer_instance; exact rfl; exact rfl; (simp only [Act.put, zA, zB, zC])) | (((with_reducible apply wpQuiet_loadPart HF); exact rfl; exact rfl; (repeat (with_reducible (first | exact At.head _ | apply At.tail))); infer_instance; exact (Nat.le_of_ble_eq_true rfl); (simp only [List.drop_zero, List.take_succ_cons, List.take_zero]; rfl); exact rfl; (simp only [Act.put, zA, zB, zC])))) | go_big_quiet_step ((go_at_call 177; (with_reducible exact calls_fam HF (LS _)))))
        refine wpQuiet_nil ?_
        intro x
        have HO := HF.own x
        clear HF
        generalize F x = w at *
        clear x F
        replace HO := HO.nil 276 5
        go_upto_region 7 with fail
        refine region_treeO ([box b3 (.cells #[.int .i64 xo, .int .i64 xd, .int .i64 xt, .int .i64 xn, .bool xp] 276)]) [(0, true), (1, true), (2, true), (4, true), (7, true), (8, true), (9, true), (3, false), (5, false), (6, false), (10, false), (11, true)] (.fork [(0, true), (1, true), (2, true), (4, true), (7, true), (8, true), (9, true)] 3 5 (.fin [(5, false), (6, false), (10, false), (11, true)]) (.fin [(3, false), (6, false), (10, false), (11, true)])) HO (by with_reducible (repeat (first | exact List.nil_sublist _ | apply List.Sublist.cons_cons | apply List.Sublist.cons))) (by kernel_rfl) (by kernel_rfl) ?_
        clear HO
        intro w HO
        refine wpS_fork ?_
        repeat (first | ((with_reducible apply wpSched_loadAll); exact rfl; exact rfl; exact rfl; (repeat (with_reducible (first | exact At.head _ | apply At.tail))); infer_instance; exact rfl; exact rfl; (simp only [Act.put, zA, zB, zC])) | ((with_reducible apply wpSched_pure); exact rfl; exact rfl; (intro w'; go_simp; try with_reducible rfl); (simp only [Act.put, zA, zB, zC])))
        refine fork_end rfl rfl ?_ ?_
        · ((with_reducible apply wpList_appendAll HO); exact rfl; infer_instance; infer_instance; ((simp [Act.eval]; rfl)); exact rfl; exact (HT.out _ _ HO (by simp)); exact HTL.out _; exact HT1.out _; intro _; (repeat (with_reducible (exact At.head _))); (omega); decide; exact rfl; clear HO; intro v2 w HO hv2; (simp only [Act.put, zA, zB, zC]))
          refine wpList_nil (thenQ_keep (HO.heldO (by with_reducible (repeat (first | exact List.nil_sublist _ | apply List.Sublist.cons_cons | apply List.Sublist.cons)))) ?_)
          refine wpS_fin ?_
          ((with_reducible apply wpSched_loud); exact rfl; (((with_reducible apply wpList_lit1 HO); exact rfl; infer_instance; infer_instance; exact rfl; exact rfl; exact (by decide); exact rfl; clear HO; intro bl w HO; (simp only [Act.put, zA, zB, zC]))))
          refine wpList_nil (thenQ_keep (HO.heldO (by with_reducible (repeat (first | exact List.nil_sublist _ | apply List.Sublist.cons_cons | apply List.Sublist.cons)))) ?_)
          ((with_reducible apply wpSched_loud); exact rfl; ((with_reducible apply wpList_push1 HO); exact rfl; infer_instance; infer_instance; ((simp [Act.eval]; rfl)); exact rfl; intro _; (repeat (with_reducible (exact At.head _))); exact rfl; exact rfl; (omega); decide; exact rfl; clear HO; intro v2 w HO hv2; (simp only [Act.put, zA, zB, zC])))
          refine wpList_nil (thenQ_keep (HO.heldO (by with_reducible (repeat (first | exact List.nil_sublist _ | apply List.Sublist.cons_cons | apply List.Sublist.cons)))) ?_)
          ((with_reducible apply wpSched_loud); exact rfl; ((with_reducible apply wpList_appendAll HO); exact rfl; infer_instance; infer_instance; ((simp [Act.eval]; rfl)); exact rfl; exact (HD.out _ _ HO (by simp)); exact HDL.out _; exact HD1.out _; intro _; (repeat (with_reducible (exact At.head _))); (omega); decide; exact rfl; clear HO; intro v2 w HO hv2; (simp only [Act.put, zA, zB, zC])))
          refine wpList_nil (thenQ_keep (HO.heldO (by with_reducible (repeat (first | exact List.nil_sublist _ | apply List.Sublist.cons_cons | apply List.Sublist.cons)))) ?_)
          repeat ((with_reducible apply wpSched_pure); exact rfl; exact rfl; (intro w'; go_simp; try with_reducible rfl); (simp only [Act.put, zA, zB, zC]))
          refine wpSched_end ?_
          go_wp2_with fail
          go_ret
          rw [HE.out] at HO
          have HF := HO.sub (L' := [row 276 5 v2 ((l8.take j ++ [(⟨xo, xd, xt, xn, xp⟩ : WtS)] ++ l8.drop j).map wtC)]) (by with_reducible (repeat (first | exact List.nil_sublist _ | apply List.Sublist.cons_cons)))
          first | exact ⟨v2, _, rfl, HLE.out, HF⟩ | exact ⟨v2, rfl, _, HLE.out, HF⟩
        · (((with_reducible apply wpList_lit1 HO); exact rfl; infer_instance; infer_instance; exact rfl; exact rfl; exact (by decide); exact rfl; clear HO; intro bl w HO; (simp only [Act.put, zA, zB, zC])))
          refine wpList_nil (thenQ_keep (HO.heldO (by with_reducible (repeat (first | exact List.nil_sublist _ | apply List.Sublist.cons_cons | apply List.Sublist.cons)))) ?_)
          refine wpS_fin ?_
          ((with_reducible apply wpSched_loud); exact rfl; ((with_reducible apply wpList_appendAll HO); exact rfl; infer_instance; infer_instance; ((simp [Act.eval]; rfl)); exact rfl; exact (HT.out _ _ HO (by simp)); exact HTL.out _; exact HT1.out _; intro _; (repeat (with_reducible (first | exact At.head _ | apply At.tail))); (omega); decide; exact rfl; clear HO; intro v2 w HO hv2; (simp only [Act.put, zA, zB, zC])))
          refine wpList_nil (thenQ_keep (HO.heldO (by with_reducible (repeat (first | exact List.nil_sublist _ | apply List.Sublist.cons_cons | apply List.Sublist.cons)))) ?_)
          ((with_reducible apply wpSched_loud); exact rfl; ((with_reducible apply wpList_push1 HO); exact rfl; infer_instance; infer_instance; ((simp [Act.eval]; rfl)); exact rfl; intro _; (repeat (with_reducible (exact At.head _))); exact rfl; exact rfl; (omega); decide; exact rfl; clear HO; intro v2 w HO hv2; (simp only [Act.put, zA, zB, zC])))
          refine wpList_nil (thenQ_keep (HO.heldO (by with_reducible (repeat (first | exact List.nil_sublist _ | apply List.Sublist.cons_cons | apply List.Sublist.cons)))) ?_)
          ((with_reducible apply wpSched_loud); exact rfl; ((with_reducible apply wpList_appendAll HO); exact rfl; infer_instance; infer_instance; ((simp [Act.eval]; rfl)); exact rfl; exact (HD.out _ _ HO (by simp)); exact HDL.out _; exact HD1.out _; intro _; (repeat (with_reducible (exact At.head _))); (omega); decide; exact rfl; clear HO; intro v2 w HO hv2; (simp only [Act.put, zA, zB, zC])))
          refine wpList_nil (thenQ_keep (HO.heldO (by with_reducible (repeat (first | exact List.nil_sublist _ | apply List.Sublist.cons_cons | apply List.Sublist.cons)))) ?_)
          repeat ((with_reducible apply wpSched_pure); exact rfl; exact rfl; (intro w'; go_simp; try with_reducible rfl); (simp only [Act.put, zA, zB, zC]))
          refine wpSched_end ?_
          go_wp2_with fail
          go_ret
          rw [HE.out] at HO
          have HF := HO.sub (L' := [row 276 5 v2 ((l8.take j ++ [(⟨xo, xd, xt, xn, xp⟩ : WtS)] ++ l8.drop j).map wtC)]) (by with_reducible (repeat (first | exact List.nil_sublist _ | apply List.Sublist.cons_cons)))
          first | exact ⟨v2, _, rfl, HLE.out, HF⟩ | exact ⟨v2, rfl, _, HLE.out, HF⟩
    · obtain rfl : j = n8 := by omega
      have hje : ¬ (j : Int) < (j : Int) := by omega
      have hdn : (l8.drop j).map wtC = [] := by rw [HN8.out, List.drop_length]; rfl
      have hcp2 : (j : Int) ≤ (c8 : Int) := by omega
      cases s8 with
      | none =>
        obtain ⟨rfl, rfl⟩ := hs8 rfl
        have HT := Lib.hid (fun (w' : World) (L' : List Ent) (h1 : Own W w' L') (hm : row 276 5 (.slice none 0 0) (l8.map wtC) ∈ L') => show IsL w' 5 (.slice none 0 0) ((l8.take 0).map wtC) from .none _ _ (fun _ => rfl))
        have HD := Lib.hid (fun (w' : World) (L' : List Ent) (h1 : Own W w' L') (hm : row 276 5 (.slice none 0 0) (l8.map wtC) ∈ L') => show IsL w' 5 (.slice none 0 0) ((l8.drop 0).map wtC) by
          rw [hdn]; exact .none _ _ (fun _ => rfl))
        clear hs8 hdn
        go_upto_region 5 with fail
        refine region_own HO (by kernel_rfl) (by kernel_rfl) ?_
        clear HO
        intro F HF
        repeat (first | (go_big_quiet_skip) | go_big_quiet_step (fail))
        refine wpQuiet_nil ?_
        intro x
        have HO := HF.own x
        clear HF
        generalize F x = w at *
        clear x F
        replace HO := HO.nil 276 5
        go_upto_region 7 with fail
        refine region_treeO ([box b3 (.cells #[.int .i64 xo, .int .i64 xd, .int .i64 xt, .int .i64 xn, .bool xp] 276)]) [(0, true), (1, true), (2, true), (4, true), (7, true), (8, true), (9, true), (3, false), (5, false), (6, false), (10, false), (11, true)] (.fork [(0, true), (1, true), (2, true), (4, true), (7, true), (8, true), (9, true)] 3 5 (.fin [(5, false), (6, false), (10, false), (11, true)]) (.fin [(3, false), (6, false), (10, false), (11, true)])) HO (by with_reducible (repeat (first | exact List.nil_sublist _ | apply List.Sublist.cons_cons | apply List.Sublist.cons))) (by kernel_rfl) (by kernel_rfl) ?_
        clear HO
        intro w HO
        refine wpS_fork ?_
        repeat (first | ((with_reducible apply wpSched_loadAll); exact rfl; exact rfl; exact rfl; (repeat (with_reducible (first | exact At.head _ | apply At.tail))); infer_instance; exact rfl; exact rfl; (simp only [Act.put, zA, zB, zC])) | ((with_reducible apply wpSched_pure); exact rfl; exact rfl; (intro w'; go_simp; try with_reducible rfl); (simp only [Act.put, zA, zB, zC])))
        refine fork_end rfl rfl ?_ ?_
        · ((with_reducible apply wpList_appendAll HO); exact rfl; infer_instance; infer_instance; ((simp [Act.eval]; rfl)); exact rfl; exact (HT.out _ _ HO (by simp)); exact HTL.out _; exact HT1.out _; intro _; (repeat (with_reducible (exact At.head _))); (omega); decide; exact rfl; clear HO; intro v2 w HO hv2; (simp only [Act.put, zA, zB, zC]))
          refine wpList_nil (thenQ_keep (HO.heldO (by with_reducible (repeat (first | exact List.nil_sublist _ | apply List.Sublist.cons_cons | apply List.Sublist.cons)))) ?_)
          refine wpS_fin ?_
          ((with_reducible apply wpSched_loud); exact rfl; (((with_reducible apply wpList_lit1 HO); exact rfl; infer_instance; infer_instance; exact rfl; exact rfl; exact (by decide); exact rfl; clear HO; intro bl w HO; (simp only [Act.put, zA, zB, zC]))))
          refine wpList_nil (thenQ_keep (HO.heldO (by with_reducible (repeat (first | exact List.nil_sublist _ | apply List.Sublist.cons_cons | apply List.Sublist.cons)))) ?_)
          ((with_reducible apply wpSched_loud); exact rfl; ((with_reducible apply wpList_push1 HO); exact rfl; infer_instance; infer_instance; ((simp [Act.eval]; rfl)); exact rfl; intro _; (repeat (with_reducible (exact At.head _))); exact rfl; exact rfl; (omega); decide; exact rfl; clear HO; intro v2 w HO hv2; (simp only [Act.put, zA, zB, zC])))
          refine wpList_nil (thenQ_keep (HO.heldO (by with_reducible (repeat (first | exact List.nil_sublist _ | apply List.Sublist.cons_cons | apply List.Sublist.cons)))) ?_)
          ((with_reducible apply wpSched_loud); exact rfl; ((with_reducible apply wpList_appendAll HO); exact rfl; infer_instance; infer_instance; ((simp [Act.eval]; rfl)); exact rfl; exact (HD.out _ _ HO (by simp)); exact HDL.out _; exact HD1.out _; intro _; (repeat (with_reducible (exact At.head _))); (omega); decide; exact rfl; clear HO; intro v2 w HO hv2; (simp only [Act.put, zA, zB, zC])))
          refine wpList_nil (thenQ_keep (HO.heldO (by with_reducible (repeat (first | exact List.nil_sublist _ | apply List.Sublist.cons_cons | apply List.Sublist.cons)))) ?_)
          repeat ((with_reducible apply wpSched_pure); exact rfl; exact rfl; (intro w'; go_simp; try with_reducible rfl); (simp only [Act.put, zA, zB, zC]))
          refine wpSched_end ?_
          go_wp2_with fail
          go_ret
          rw [HE.out] at HO
          have HF := HO.sub (L' := [row 276 5 v2 ((l8.take 0 ++ [(⟨xo, xd, xt, xn, xp⟩ : WtS)] ++ l8.drop 0).map wtC)]) (by with_reducible (repeat (first | exact List.nil_sublist _ | apply List.Sublist.cons_cons)))
          first | exact ⟨v2, _, rfl, HLE.out, HF⟩ | exact ⟨v2, rfl, _, HLE.out, HF⟩
        · (((with_reducible apply wpList_lit1 HO); exact rfl; infer_instance; infer_instance; exact rfl; exact rfl; exact (by decide); exact rfl; clear HO; intro bl w HO; (simp only [Act.put, zA, zB, zC])))
          refine wpList_nil (thenQ_keep (HO.heldO (by with_reducible (repeat (first | exact List.nil_sublist _ | apply List.Sublist.cons_cons | apply List.Sublist.cons)))) ?_)
          refine wpS_fin ?_
          ((with_reducible apply wpSched_loud); exact rfl; ((with_reducible apply wpList_appendAll HO); exact rfl; infer_instance; infer_instance; ((simp [Act.eval]; rfl)); exact rfl; exact (HT.out _ _ HO (by simp)); exact HTL.out _; exact HT1.out _; intro _; (repeat (with_reducible (first | exact At.head _ | apply At.tail))); (omega); decide; exact rfl; clear HO; intro v2 w HO hv2; (simp only [Act.put, zA, zB, zC])))
          refine wpList_nil (thenQ_keep (HO.heldO (by with_reducible (repeat (first | exact List.nil_sublist _ | apply List.Sublist.cons_cons | apply List.Sublist.cons)))) ?_)
          ((with_reducible apply wpSched_loud); exact rfl; ((with_reducible apply wpList_push1 HO); exact rfl; infer_instance; infer_instance; ((simp [Act.eval]; rfl)); exact rfl; intro _; (repeat (with_reducible (exact At.head _))); exact rfl; exact rfl; (omega); decide; exact rfl; clear HO; intro v2 w HO hv2; (simp only [Act.put, zA, zB, zC])))
          refine wpList_nil (thenQ_keep (HO.heldO (by with_reducible (repeat (first | exact List.nil_sublist _ | apply List.Sublist.cons_cons | apply List.Sublist.cons)))) ?_)
          ((with_reducible apply wpSched_loud); exact rfl; ((with_reducible apply wpList_appendAll HO); exact rfl; infer_instance; infer_instance; ((simp [Act.eval]; rfl)); exact rfl; exact (HD.out _ _ HO (by simp)); exact HDL.out _; exact HD1.out _; intro _; (repeat (with_reducible (exact At.head _))); (omega); decide; exact rfl; clear HO; intro v2 w HO hv2; (simp only [Act.put, zA, zB, zC])))
          refine wpList_nil (thenQ_keep (HO.heldO (by with_reducible (repeat (first | exact List.nil_sublist _ | apply List.Sublist.cons_cons | apply List.Sublist.cons)))) ?_)
          repeat ((with_reducible apply wpSched_pure); exact rfl; exact rfl; (intro w'; go_simp; try with_reducible rfl); (simp only [Act.put, zA, zB, zC]))
          refine wpSched_end ?_
          go_wp2_with fail
          go_ret
          rw [HE.out] at HO
          have HF := HO.sub (L' := [row 276 5 v2 ((l8.take 0 ++ [(⟨xo, xd, xt, xn, xp⟩ : WtS)] ++ l8.drop 0).map wtC)]) (by with_reducible (repeat (first | exact List.nil_sublist _ | apply List.Sublist.cons_cons)))
          first | exact ⟨v2, _, rfl, HLE.out, HF⟩ | exact ⟨v2, rfl, _, HLE.out, HF⟩
      | some q =>
        clear hs8
        have HT := Lib.hid (fun (w' : World) (L' : List Ent) (h1 : Own W w' L') (hm : row 276 5 (.slice (some q) j c8) (l8.map wtC) ∈ L') => show IsL w' 5 (.slice (some q) j c8) ((l8.take j).map wtC) by
          rw [List.map_take]; exact (HR.out w' L' h1 hm).take (by omega))
        have HD := Lib.hid (fun (w' : World) (L' : List Ent) (h1 : Own W w' L') (hm : row 276 5 (.slice (some q) j c8) (l8.map wtC) ∈ L') (q' : Addr) (cc : Nat) => show IsL w' 5 (.slice (some q') 0 cc) ((l8.drop j).map wtC) by
          rw [hdn]; exact .none _ _ (fun e => by cases e))
        clear hdn
        by_cases hcc : c8 = j
        · subst hcc
          go_upto_region 5 with fail
          refine region_own HO (by kernel_rfl) (by kernel_rfl) ?_
          clear HO
          intro F HF
          repeat (first | (go_big_quiet_skip) | go_big_quiet_step (fail))
          refine wpQuiet_nil ?_
          intro x
          have HO := HF.own x
          clear HF
          generalize F x = w at *
          clear x F
          replace HO := HO.nil 276 5
          go_upto_region 7 with fail
          refine region_treeO ([box b3 (.cells #[.int .i64 xo, .int .i64 xd, .int .i64 xt, .int .i64 xn, .bool xp] 276)]) [(0, true), (1, true), (2, true), (4, true), (7, true), (8, true), (9, true), (3, false), (5, false), (6, false), (10, false), (11, true)] (.fork [(0, true), (1, true), (2, true), (4, true), (7, true), (8, true), (9, true)] 3 5 (.fin [(5, false), (6, false), (10, false), (11, true)]) (.fin [(3, false), (6, false), (10, false), (11, true)])) HO (by with_reducible (repeat (first | exact List.nil_sublist _ | apply List.Sublist.cons_cons | apply List.Sublist.cons))) (by kernel_rfl) (by kernel_rfl) ?_
          clear HO
          intro w HO
          refine wpS_fork ?_
          repeat (first | ((with_reducible apply wpSched_loadAll); exact rfl; exact rfl; exact rfl; (repeat (with_reducible (first | exact At.head _ | apply At.tail))); infer_instance; exact rfl; exact rfl; (simp only [Act.put, zA, zB, zC])) | ((with_reducible apply wpSched_pure); exact rfl; exact rfl; (intro w'; go_simp; try with_reducible rfl); (simp only [Act.put, zA, zB, zC])))
          refine fork_end rfl rfl ?_ ?_
          · ((with_reducible apply wpList_appendAll HO); exact rfl; infer_instance; infer_instance; ((simp [Act.eval]; rfl)); exact rfl; exact (HT.out _ _ HO (by simp)); exact HTL.out _; exact HT1.out _; intro _; (repeat (with_reducible (exact At.head _))); (omega); decide; exact rfl; clear HO; intro v2 w HO hv2; (simp only [Act.put, zA, zB, zC]))
            refine wpList_nil (thenQ_keep (HO.heldO (by with_reducible (repeat (first | exact List.nil_sublist _ | apply List.Sublist.cons_cons | apply List.Sublist.cons)))) ?_)
            refine wpS_fin ?_
            ((with_reducible apply wpSched_loud); exact rfl; (((with_reducible apply wpList_lit1 HO); exact rfl; infer_instance; infer_instance; exact rfl; exact rfl; exact (by decide); exact rfl; clear HO; intro bl w HO; (simp only [Act.put, zA, zB, zC]))))
            refine wpList_nil (thenQ_keep (HO.heldO (by with_reducible (repeat (first | exact List.nil_sublist _ | apply List.Sublist.cons_cons | apply List.Sublist.cons)))) ?_)
            ((with_reducible apply wpSched_loud); exact rfl; ((with_reducible apply wpList_push1 HO); exact rfl; infer_instance; infer_instance; ((simp [Act.eval]; rfl)); exact rfl; intro _; (repeat (with_reducible (exact At.head _))); exact rfl; exact rfl; (omega); decide; exact rfl; clear HO; intro v2 w HO hv2; (simp only [Act.put, zA, zB, zC])))
            refine wpList_nil (thenQ_keep (HO.heldO (by with_reducible (repeat (first | exact List.nil_sublist _ | apply List.Sublist.cons_cons | apply List.Sublist.cons)))) ?_)
            ((with_reducible apply wpSched_loud); exact rfl; ((with_reducible apply wpList_appendAll HO); exact rfl; infer_instance; infer_instance; ((simp [Act.eval]; rfl)); exact rfl; exact (HD.out _ _ HO (by simp) _ _); exact HDL.out _; exact HD1.out _; intro _; (repeat (with_reducible (exact At.head _))); (omega); decide; exact rfl; clear HO; intro v2 w HO hv2; (simp only [Act.put, zA, zB, zC])))
            refine wpList_nil (thenQ_keep (HO.heldO (by with_reducible (repeat (first | exact List.nil_sublist _ | apply List.Sublist.cons_cons | apply List.Sublist.cons)))) ?_)
            repeat ((with_reducible apply wpSched_pure); exact rfl; exact rfl; (intro w'; go_simp; try with_reducible rfl); (simp only [Act.put, zA, zB, zC]))
            refine wpSched_end ?_
            go_wp2_with fail
            go_ret
            rw [HE.out] at HO
            have HF := HO.sub (L' := [row 276 5 v2 ((l8.take c8 ++ [(⟨xo, xd, xt, xn, xp⟩ : WtS)] ++ l8.drop c8).map wtC)]) (by with_reducible (repeat (first | exact List.nil_sublist _ | apply List.Sublist.cons_cons)))
            first | exact ⟨v2, _, rfl, HLE.out, HF⟩ | exact ⟨v2, rfl, _, HLE.out, HF⟩
          · (((with_reducible apply wpList_lit1 HO); exact rfl; infer_instance; infer_instance; exact rfl; exact rfl; exact (by decide); exact rfl; clear HO; intro bl w HO; (simp only [Act.put, zA, zB, zC])))
            refine wpList_nil (thenQ_keep (HO.heldO (by with_reducible (repeat (first | exact List.nil_sublist _ | apply List.Sublist.cons_cons | apply List.Sublist.cons)))) ?_)
            refine wpS_fin ?_
            ((with_reducible apply wpSched_loud); exact rfl; ((with_reducible apply wpList_appendAll HO); exact rfl; infer_instance; infer_instance; ((simp [Act.eval]; rfl)); exact rfl; exact (HT.out _ _ HO (by simp)); exact HTL.out _; exact HT1.out _; intro _; (repeat (with_reducible (first | exact At.head _ | apply At.tail))); (omega); decide; exact rfl; clear HO; intro v2 w HO hv2; (simp only [Act.put, zA, zB, zC])))
            refine wpList_nil (thenQ_keep (HO.heldO (by with_reducible (repeat (first | exact List.nil_sublist _ | apply List.Sublist.cons_cons | apply List.Sublist.cons)))) ?_)
            ((with_reducible apply wpSched_loud); exact rfl; ((with_reducible apply wpList_push1 HO); exact rfl; infer_instance; infer_instance; ((simp [Act.eval]; rfl)); exact rfl; intro _; (repeat (with_reducible (exact At.head _))); exact rfl; exact rfl; (omega); decide; exact rfl; clear HO; intro v2 w HO hv2; (simp only [Act.put, zA, zB, zC])))
            refine wpList_nil (thenQ_keep (HO.heldO (by with_reducible (repeat (first | exact List.nil_sublist _ | apply List.Sublist.cons_cons | apply List.Sublist.cons)))) ?_)
            ((with_reducible apply wpSched_loud); exact rfl; ((with_reducible apply wpList_appendAll HO); exact rfl; infer_instance; infer_instance; ((simp [Act.eval]; rfl)); exact rfl; exact (HD.out _ _ HO (by simp) _ _); exact HDL.out _; exact HD1.out _; intro _; (repeat (with_reducible (exact At.head _))); (omega); decide; exact rfl; clear HO; intro v2 w HO hv2; (simp only [Act.put, zA, zB, zC])))
            refine wpList_nil (thenQ_keep (HO.heldO (by with_reducible (repeat (first | exact List.nil_sublist _ | apply List.Sublist.cons_cons | apply List.Sublist.cons)))) ?_)
            repeat ((with_reducible apply wpSched_pure); exact rfl; exact rfl; (intro w'; go_simp; try with_reducible rfl); (simp only [Act.put, zA, zB, zC]))
            refine wpSched_end ?_
            go_wp2_with fail
            go_ret
            rw [HE.out] at HO
            have HF := HO.sub (L' := [row 276 5 v2 ((l8.take c8 ++ [(⟨xo, xd, xt, xn, xp⟩ : WtS)] ++ l8.drop c8).map wtC)]) (by with_reducible (repeat (first | exact List.nil_sublist _ | apply List.Sublist.cons_cons)))
            first | exact ⟨v2, _, rfl, HLE.out, HF⟩ | exact ⟨v2, rfl, _, HLE.out, HF⟩
        · go_upto_region 5 with fail
          refine region_own HO (by kernel_rfl) (by kernel_rfl) ?_
          clear HO
          intro F HF
          repeat (first | (go_big_quiet_skip) | go_big_quiet_step (fail))
          refine wpQuiet_nil ?_
          intro x
          have HO := HF.own x
          clear HF
          generalize F x = w at *
          clear x F
          replace HO := HO.nil 276 5
          go_upto_region 7 with fail
          refine region_treeO ([box b3 (.cells #[.int .i64 xo, .int .i64 xd, .int .i64 xt, .int .i64 xn, .bool xp] 276)]) [(0, true), (1, true), (2, true), (4, true), (7, true), (8, true), (9, true), (3, false), (5, false), (6, false), (10, false), (11, true)] (.fork [(0, true), (1, true), (2, true), (4, true), (7, true), (8, true), (9, true)] 3 5 (.fin [(5, false), (6, false), (10, false), (11, true)]) (.fin [(3, false), (6, false), (10, false), (11, true)])) HO (by with_reducible (repeat (first | exact List.nil_sublist _ | apply List.Sublist.cons_cons | apply List.Sublist.cons))) (by kernel_rfl) (by kernel_rfl) ?_
          clear HO
          intro w HO
          refine wpS_fork ?_
          repeat (first | ((with_reducible apply wpSched_loadAll); exact rfl; exact rfl; exact rfl; (repeat (with_reducible (first | exact At.head _ | apply At.tail))); infer_instance; exact rfl; exact rfl; (simp only [Act.put, zA, zB, zC])) | ((with_reducible apply wpSched_pure); exact rfl; exact rfl; (intro w'; go_simp; try with_reducible rfl); (simp only [Act.put, zA, zB, zC])))
          refine fork_end rfl rfl ?_ ?_
          · ((with_reducible apply wpList_appendAll HO); exact rfl; infer_instance; infer_instance; ((simp [Act.eval]; rfl)); exact rfl; exact (HT.out _ _ HO (by simp)); exact HTL.out _; exact HT1.out _; intro _; (repeat (with_reducible (exact At.head _))); (omega); decide; exact rfl; clear HO; intro v2 w HO hv2; (simp only [Act.put, zA, zB, zC]))
            refine wpList_nil (thenQ_keep (HO.heldO (by with_reducible (repeat (first | exact List.nil_sublist _ | apply List.Sublist.cons_cons | apply List.Sublist.cons)))) ?_)
            refine wpS_fin ?_
            ((with_reducible apply wpSched_loud); exact rfl; (((with_reducible apply wpList_lit1 HO); exact rfl; infer_instance; infer_instance; exact rfl; exact rfl; exact (by decide); exact rfl; clear HO; intro bl w HO; (simp only [Act.put, zA, zB, zC]))))
            refine wpList_nil (thenQ_keep (HO.heldO (by with_reducible (repeat (first | exact List.nil_sublist _ | apply List.Sublist.cons_cons | apply List.Sublist.cons)))) ?_)
            ((with_reducible apply wpSched_loud); exact rfl; ((with_reducible apply wpList_push1 HO); exact rfl; infer_instance; infer_instance; ((simp [Act.eval]; rfl)); exact rfl; intro _; (repeat (with_reducible (exact At.head _))); exact rfl; exact rfl; (omega); decide; exact rfl; clear HO; intro v2 w HO hv2; (simp only [Act.put, zA, zB, zC])))
            refine wpList_nil (thenQ_keep (HO.heldO (by with_reducible (repeat (first | exact List.nil_sublist _ | apply List.Sublist.cons_cons | apply List.Sublist.cons)))) ?_)
            ((with_reducible apply wpSched_loud); exact rfl; ((with_reducible apply wpList_appendAll HO); exact rfl; infer_instance; infer_instance; ((simp [Act.eval]; rfl)); exact rfl; exact (HD.out _ _ HO (by simp) _ _); exact HDL.out _; exact HD1.out _; intro _; (repeat (with_reducible (exact At.head _))); (omega); decide; exact rfl; clear HO; intro v2 w HO hv2; (simp only [Act.put, zA, zB, zC])))
            refine wpList_nil (thenQ_keep (HO.heldO (by with_reducible (repeat (first | exact List.nil_sublist _ | apply List.Sublist.cons_cons | apply List.Sublist.cons)))) ?_)
            repeat ((with_reducible apply wpSched_pure); exact rfl; exact rfl; (intro w'; go_simp; try with_reducible rfl); (simp only [Act.put, zA, zB, zC]))
            refine wpSched_end ?_
            go_wp2_with fail
            go_ret
            rw [HE.out] at HO
            have HF := HO.sub (L' := [row 276 5 v2 ((l8.take j ++ [(⟨xo, xd, xt, xn, xp⟩ : WtS)] ++ l8.drop j).map wtC)]) (by with_reducible (repeat (first | exact List.nil_sublist _ | apply List.Sublist.cons_cons)))
            first | exact ⟨v2, _, rfl, HLE.out, HF⟩ | exact ⟨v2, rfl, _, HLE.out, HF⟩
          · (((with_reducible apply wpList_lit1 HO); exact rfl; infer_instance; infer_instance; exact rfl; exact rfl; exact (by decide); exact rfl; clear HO; intro bl w HO; (simp only [Act.put, zA, zB, zC])))
            refine wpList_nil (thenQ_keep (HO.heldO (by with_reducible (repeat (first | exact List.nil_sublist _ | apply List.Sublist.cons_cons | apply List.Sublist.cons)))) ?_)
            refine wpS_fin ?_
            ((with_reducible apply wpSched_loud); exact rfl; ((with_reducible apply wpList_appendAll HO); exact rfl; infer_instance; infer_instance; ((simp [Act.eval]; rfl)); exact rfl; exact (HT.out _ _ HO (by simp)); exact HTL.out _; exact HT1.out _; intro _; (repeat (with_reducible (first | exact At.head _ | apply At.tail))); (omega); decide; exact rfl; clear HO; intro v2 w HO hv2; (simp only [Act.put, zA, zB, zC])))
            refine wpList_nil (thenQ_keep (HO.heldO (by with_reducible (repeat (first | exact List.nil_sublist _ | apply List.Sublist.cons_cons | apply List.Sublist.cons)))) ?_)
            ((with_reducible apply wpSched_loud); exact rfl; ((with_reducible apply wpList_push1 HO); exact rfl; infer_instance; infer_instance; ((simp [Act.eval]; rfl)); exact rfl; intro _; (repeat (with_reducible (exact At.head _))); exact rfl; exact rfl; (omega); decide; exact rfl; clear HO; intro v2 w HO hv2; (simp only [Act.put, zA, zB, zC])))
            refine wpList_nil (thenQ_keep (HO.heldO (by with_reducible (repeat (first | exact List.nil_sublist _ | apply List.Sublist.cons_cons | apply List.Sublist.cons)))) ?_)
            ((with_reducible apply wpSched_loud); exact rfl; ((with_reducible apply wpList_appendAll HO); exact rfl; infer_instance; infer_instance; ((simp [Act.eval]; rfl)); exact rfl; exact (HD.out _ _ HO (by simp) _ _); exact HDL.out _; exact HD1.out _; intro _; (repeat (with_reducible (exact At.head _))); (omega); decide; exact rfl; clear HO; intro v2 w HO hv2; (simp only [Act.put, zA, zB, zC])))
            refine wpList_nil (thenQ_keep (HO.heldO (by with_reducible (repeat (first | exact List.nil_sublist _ | apply List.Sublist.cons_cons | apply List.Sublist.cons)))) ?_)
            repeat ((with_reducible apply wpSched_pure); exact rfl; exact rfl; (intro w'; go_simp; try with_reducible rfl); (simp only [Act.put, zA, zB, zC]))
            refine wpSched_end ?_
            go_wp2_with fail
            go_ret
            rw [HE.out] at HO
            have HF := HO.sub (L' := [row 276 5 v2 ((l8.take j ++ [(⟨xo, xd, xt, xn, xp⟩ : WtS)] ++ l8.drop j).map wtC)]) (by with_reducible (repeat (first | exact List.nil_sublist _ | apply List.Sublist.cons_cons)))
            first | exact ⟨v2, _, rfl, HLE.out, HF⟩ | exact ⟨v2, rfl, _, HLE.out, HF⟩
end Go.Proofs.YtibabfedpdoofaaGreatDoor
namespace Go.Proofs.YtibabfedpdoofaaGreatDoor
open Go.RowKit Go.Own Go.Maps

theorem RcS.re {w : World} {x : RcA} {S : CoS} {A : InS} (h : RcS w x S A) (c : Nat) : RcS w { x with r := c } S A := ⟨h.l, h.b, h.i0, h.i1, h.i2⟩
theorem part_cells {w' : World} {b off : Nat} {cs l : List Value} {T : TypeId} (hF : w'.heap[b]? = some (.cells cs.toArray T)) (h : ∀ (j : Nat) (u : Value), l[j]? = some u → cs[off + j]? = some u) : ∀ (j : Nat) (u : Value), l[j]? = some u → w'.cell? ((⟨b, off, none⟩ : Addr).add j) = some u := fun j u hu => by
  rw [addAt]
  exact old_cell hF (off + j) (h j u hu)

set_option maxHeartbeats 8000000 in
set_option maxRecDepth 100000 in
theorem rcCopy_any {W : World} {x : RcA} {S : CoS} {A : InS} (h : RcAt W x S A) : Calls Tryz.prog 152 #[.pointer (some ⟨x.r, 0, none⟩)] W fun e w' => ∃ c, e = .returned (.pointer (some ⟨c, 0, none⟩)) ∧ Own W w' [rcB { x with r := c } A] := by
  have HO := Own.start W
  obtain ⟨p1, c1, h1, -⟩ := h.s.l.slice
  obtain ⟨p2, c2, h2, -⟩ := h.s.b.slice
  obtain ⟨p3, c3, h3, -⟩ := h.s.i0.slice
  obtain ⟨p4, c4, h4, -⟩ := h.s.i1.slice
  obtain ⟨p5, c5, h5, -⟩ := h.s.i2.slice
  have hst := fun (w' : World) (hb : Below W.heap.size W w') => part_cells (off := 0) (l := rcC x A) (show w'.heap[x.r]? = some (.cells (rcC x A).toArray 152) by rw [hb.block _ (old_lt h.box)]; exact h.box) (fun j u hu => by rw [Nat.zero_add]; exact hu)
  obtain ⟨r, v, u, v0, v1, v2⟩ := x
  simp only at h1 h2 h3 h4 h5
  subst h1 h2 h3 h4 h5
  unfold rcC at hst
  simp only at hst
  replace hst := Lib.hid hst
  clear h
  unfold rcB rcC
  go_enter Tryz.func152, Tryz.ntmps152
  go_wp2_with (first | ((with_reducible apply wpList_loadAt HO); exact rfl; exact rfl; exact (fun w' h1 => hst.out w' h1.grown); infer_instance; exact rfl; exact rfl; (simp only [Act.put, zA, zB, zC])) | (((with_reducible apply wpList_allocAgg _ HO rfl); exact rfl; infer_instance; exact rfl; clear HO; intro b1 w HO; (simp only [Act.put, zA, zB, zC]))) | ((with_reducible apply wpList_storeAll HO); exact rfl; exact rfl; exact rfl; (repeat (with_reducible (exact At.head _))); infer_instance; exact rfl; exact rfl; exact rfl; exact rfl; clear HO; intro w HO; (simp only [Act.put])))
  go_ret
  exact ⟨b1, rfl, HO⟩

set_option maxHeartbeats 8000000 in
set_option maxRecDepth 100000 in
theorem wtNear_any (w : World) : Calls Tryz.prog 202 #[.int .i64 0] w fun e w' => e = .returned (.int .i64 0) ∧ Below w.heap.size w w' := by
  have HO := Own.start w
  go_enter Tryz.func202, Tryz.ntmps202
  go_wp2_with (fail)
  go_ret
  exact ⟨rfl, HO.grown⟩
set_option maxHeartbeats 8000000 in
set_option maxRecDepth 100000 in
theorem wtDue_any {W : World} {v : Value} {l : List WtS} (h : IsL W 5 v (l.map wtC)) (o d : Int) (hk : keyOk o d = true) (hl : l.length ≤ 1000) : Calls Tryz.prog 187 #[v, .agg #[.int .i64 o, .int .i64 d], .int .i64 0] W fun e w' =>
    ∃ (v' : Value) (l' : List WtS), e = .returned v' ∧ l'.length ≤ l.length + 1 ∧ Own W w' [row 276 5 v' (l'.map wtC)] := by
  have HO := Own.start W
  have NR := fun w => wtNear_any w
  have PT := Lib.hid (show ∀ w : World, Below W.heap.size W w → Calls Tryz.prog 201 #[v, .agg #[.int .i64 o, .int .i64 d, .int .i64 0, .int .i64 0, .bool false]] w fun e w' => ∃ (v' : Value) (l' : List WtS), e = .returned v' ∧ l'.length ≤ l.length + 1 ∧ Own w w' [row 276 5 v' (l'.map wtC)] from fun w hb => wtPut_any (h.below hb h.lt) ⟨o, d, 0, 0, false⟩ hk hl)
  clear h hk
  go_enter Tryz.func187, Tryz.ntmps187
  go_upto_region 1 with ((((with_reducible apply wpList_boxAgg _ HO rfl); exact rfl; exact rfl; exact rfl; clear HO; intro b3 w HO; (simp only [Act.put, zA, zB, zC]))))
  refine region_sched ([box b3 (.cells #[.int .i64 o, .int .i64 d] 29)]) [(0, true), (1, true), (2, true), (3, false), (4, true), (5, false), (6, true)] HO (by with_reducible (repeat (first | exact List.nil_sublist _ | apply List.Sublist.cons_cons))) (by kernel_rfl) (by kernel_rfl) ?_
  clear HO
  intro w HO
  repeat (first | ((with_reducible apply wpHeld_loadAll); exact rfl; exact rfl; exact rfl; (repeat (with_reducible (exact At.head _))); infer_instance; exact rfl; exact rfl; (simp only [Act.put, zA, zB, zC])) | ((with_reducible apply wpHeld_pure); exact rfl; exact rfl; (intro w'; go_simp; try with_reducible rfl); (simp only [Act.put, zA, zB, zC])))
  ((with_reducible apply wpHeld_loud); exact rfl; go_wp2_with ((go_at_call 202; go_must ((with_reducible refine (NR _).mono ?_); rintro e w ⟨rfl, hb⟩; replace HO := HO.call hb; clear hb))))
  refine ⟨HO.held (by with_reducible (repeat (first | exact List.nil_sublist _ | apply List.Sublist.cons_cons))), ?_⟩
  repeat (((with_reducible apply wpHeld_pure); exact rfl; exact rfl; (intro w'; go_simp; try with_reducible rfl); (simp only [Act.put, zA, zB, zC])))
  ((with_reducible apply wpHeld_loud); exact rfl; go_wp2_with ((go_at_call 201; go_must ((with_reducible refine (PT.out _ HO.grown).mono ?_); rintro e w ⟨v8, l8, rfl, hl8, HO1⟩; replace HO := HO.lift HO1; clear HO1; simp only [List.cons_append, List.nil_append] at HO))))
  refine ⟨HO.held (by with_reducible (repeat (first | exact List.nil_sublist _ | apply List.Sublist.cons_cons | apply List.Sublist.cons))), ?_⟩
  repeat (((with_reducible apply wpHeld_pure); exact rfl; exact rfl; (intro w'; go_simp; try with_reducible rfl); (simp only [Act.put, zA, zB, zC])))
  refine wpHeld_end ?_
  go_wp2_with fail
  go_ret
  exact ⟨v8, l8, rfl, hl8, HO.sub (by with_reducible (repeat (first | exact List.nil_sublist _ | apply List.Sublist.cons_cons)))⟩

/-- The document's model in memory. -/
def mdR (b c : Nat) (v : Value) : Ent := box b (.cells #[.pointer (some ⟨c, 0, none⟩), v, .int .i64 0] 256)
set_option maxHeartbeats 16000000 in
set_option maxRecDepth 100000 in
theorem rfOf_any {W : World} {x : RcA} {S : CoS} {A : InS} (h : RcAt W x S A) (hl : S.L.length ≤ 60) : Calls Tryz.prog 170 #[.pointer (some ⟨x.r, 0, none⟩)] W fun e w' =>
    ∃ (b c : Nat) (v : Value) (N : List Ent), e = .returned (.pointer (some ⟨b, 0, none⟩)) ∧ Own W w' (mdR b c v :: rcB { x with r := c } A :: N) := by
  have HO := Own.start W
  have CP := fun w (hb : Below W.heap.size W w) => rcCopy_any (h.below hb)
  have AK := Lib.hid (fun (w : World) (hb : Below W.heap.size W w) => rcAsks_any (h.below hb) hl)
  clear h
  go_enter Tryz.func170, Tryz.ntmps170
  go_wp2_with (first | (go_at_call 152; go_must ((with_reducible refine (CP _ HO.grown).mono ?_); rintro e w ⟨c1, rfl, HO1⟩; replace HO := HO.lift HO1; clear HO1 CP)) | (((with_reducible apply wpList_boxAgg _ HO rfl); exact rfl; exact rfl; exact rfl; clear HO; intro b9 w HO; (simp only [Act.put, zA, zB, zC]))) | (go_at_call 186; go_must ((with_reducible refine (AK.out _ HO.grown).mono ?_); rintro e w ⟨v8, K, rfl, hK, hin, HO1⟩; replace HO := HO.lift HO1; clear HO1 AK; obtain ⟨⟨p8, c8, rfl⟩, -⟩ := HO.rowForm (v := v8) (.head _); rw [List.length_map] at HO ⊢)))
  replace HO := HO.nil 276 5
  simp only [List.cons_append, List.nil_append] at HO
  generalize hZ : rcB { x with r := c1 } A = Z at *
  go_loopw [5] (fun iv wr => ∃ (j : Nat) (v6 : Value) (l6 : List WtS), j ≤ K.length ∧ iv = .int .i64 (j : Int) ∧ l6.length ≤ j ∧ Own W wr [row 276 5 v6 (l6.map wtC), row 29 2 (.slice p8 K.length c8) (K.map keyL), box b9 (.cells #[.pointer (some ⟨c1, 0, none⟩), v6, .int .i64 0] 256), Z]) (fun iv _ => K.length - (intOf iv).toNat)
  case atStart => exact ⟨0, _, [], by omega, rfl, by simp, HO⟩
  case round =>
    clear HO
    obtain ⟨j, v6, l6, hj, rfl, hl6, HO⟩ := hrel
    by_cases hjl : j < K.length
    · have hjI : (j : Int) < (K.length : Int) := by omega
      obtain ⟨q, rfl⟩ : ∃ q, p8 = some q := by
        obtain ⟨q, c', h⟩ := (HO.rowForm (t := 29) (k := 2) (v := .slice p8 K.length c8) (A := K.map keyL) (.tail _ _ _ (.head _))).2 (by rw [List.length_map]; omega)
        rw [List.length_map] at h
        cases h
        exact ⟨q, rfl⟩
      have RW := Lib.hid (fun (w' : World) (hF : (row 29 2 (.slice (some q) K.length c8) (K.map keyL)).F w') => cellH (isL_of_owns (keyL_len K) hF) (j := j) (by simpa using hjl))
      simp only [List.getElem_map] at RW
      have hkk := hin _ (List.getElem_mem hjl)
      generalize K[j] = kk at *
      obtain ⟨ko, kd⟩ := kk
      simp only [keyL] at hkk RW
      have DU := Lib.hid (fun (w : World) (L' : List Ent) (h1 : Own W w L') (hm : row 276 5 v6 (l6.map wtC) ∈ L') => wtDue_any (isL_of_owns (wtC_len l6) (h1.has _ hm)) ko kd hkk (by omega))
      obtain ⟨⟨p6, c6, rfl⟩, -⟩ := HO.rowForm (v := v6) (.head _)
      rw [List.length_map] at HO DU
      go_upto_region 6 with fail
      refine region_sched2 ([row 29 2 (.slice (some q) K.length c8) (K.map keyL), box b9 (.cells #[.pointer (some ⟨c1, 0, none⟩), .slice p6 l6.length c6, .int .i64 0] 256)]) [(0, true), (1, true), (2, true), (3, true), (4, true), (5, true), (6, true), (7, true), (8, true), (9, false), (10, true), (11, true), (12, false)] HO (by with_reducible (repeat (first | exact List.nil_sublist _ | apply List.Sublist.cons_cons | apply List.Sublist.cons))) (by kernel_rfl) (by kernel_rfl) ?_
      clear HO
      intro w HO
      repeat (first | ((with_reducible apply wpSched_loadOne); exact rfl; exact rfl; exact rfl; (repeat (with_reducible (first | exact At.head _ | apply At.tail))); exact rfl; infer_instance; exact rfl; (simp only [Act.put, zA, zB, zC])) | ((with_reducible apply wpSched_loadAt); exact rfl; exact rfl; exact rfl; exact (fun w' hw => RW.out w' (hw _ List.mem_cons_self)); infer_instance; exact rfl; exact rfl; (simp only [Act.put, zA, zB, zC])) | ((with_reducible apply wpSched_pure); exact rfl; exact rfl; (intro w'; go_simp; try with_reducible rfl); (simp only [Act.put, zA, zB, zC])))
      ((with_reducible apply wpSched_loud); exact rfl; go_wp2_with ((go_at_call 187; go_must ((with_reducible refine (DU.out _ _ HO List.mem_cons_self).mono ?_); rintro e w ⟨v5, l5, rfl, hl5, HO1⟩; replace HO := HO.lift HO1; clear HO1 DU; obtain ⟨⟨p5, c5, rfl⟩, -⟩ := HO.rowForm (v := v5) (.head _); rw [List.length_map] at HO; simp only [List.cons_append, List.nil_append] at HO))))
      refine thenQ_keep (HO.held (by with_reducible (repeat (first | exact List.nil_sublist _ | apply List.Sublist.cons_cons | apply List.Sublist.cons)))) ?_
      repeat ((with_reducible apply wpSched_pure); exact rfl; exact rfl; (intro w'; go_simp; try with_reducible rfl); (simp only [Act.put, zA, zB, zC]))
      ((with_reducible apply wpSched_loud); exact rfl; ((with_reducible apply wpList_storeOne HO); exact rfl; exact rfl; ((simp [Act.eval]; rfl)); exact rfl; (repeat (with_reducible (first | exact At.head _ | apply At.tail))); infer_instance; exact (by simp); (simp only [List.set_cons_succ, List.set_cons_zero]; rfl); exact rfl; clear HO; intro w HO; (simp only [Act.put])))
      refine wpList_nil (thenQ_free (by kernel_rfl) ?_)
      refine wpSched_end ?_
      go_wp2_with fail
      go_roundw
      case rel => exact ⟨j + 1, _, l5, by omega, by go_num, by omega, HO.sub (by with_reducible (repeat (first | exact List.nil_sublist _ | apply List.Sublist.cons_cons | apply List.Sublist.cons)))⟩
      case measure => simp [intOf] <;> omega
    · obtain rfl : j = K.length := by omega
      go_wp2_with fail
      go_ret
      exact ⟨b9, c1, v6, [row 276 5 v6 (l6.map wtC), row 29 2 (.slice p8 K.length c8) (K.map keyL)], rfl, by rw [hZ]; exact HO.perm (by classical exact List.perm_iff_count.2 (fun x9 => by simp only [mdR, List.count_cons, List.count_nil, Nat.zero_add]; ac_rfl))⟩

set_option maxHeartbeats 8000000 in
set_option maxRecDepth 100000 in
theorem rfPlace_any {w : World} {b : Nat} {v : Value} {x : RcA} {S : CoS} {A : InS} (hb : w.heap[b]? = some (.cells [.pointer (some ⟨x.r, 0, none⟩), v, .int .i64 0].toArray 256)) (h : RcAt w x S A) (hl : S.L.length ≤ 60) (o : OrdS) :
    Calls Tryz.prog 171 #[.pointer (some ⟨b, 0, none⟩), ordV o] w fun e w' => e = .returned (.agg #[.int .i64 ((placedE S.L.length o)).k, .int .i64 ((placedE S.L.length o)).id, .string ⟨((placedE S.L.length o)).ref.toArray⟩, .string ⟨((placedE S.L.length o)).sku.toArray⟩, .int .i64 ((placedE S.L.length o)).qty, .int .i64 ((placedE S.L.length o)).amt, .int .i64 ((placedE S.L.length o)).o, .int .i64 ((placedE S.L.length o)).d, .int .i64 ((placedE S.L.length o)).c, .int .i64 ((placedE S.L.length o)).p, .int .i64 ((placedE S.L.length o)).q, (.slice none 0 0)]) ∧ Below w.heap.size w w' := by
  have HO := Own.start w
  have h0 := old_cell hb 0 rfl
  have hlt := old_lt hb
  obtain ⟨p1, c1, e1, -⟩ := h.s.l.slice
  rw [List.length_map] at e1
  have h1 := old_cell h.box 0 rfl
  rw [e1] at h1
  have hlt1 := old_lt h.box
  have hln : (S.L.length : Int) ≤ 60 := by omega
  clear h hb e1
  obtain ⟨oid, oref, osku, oq, oa⟩ := o
  unfold ordV placedE zeroE
  simp only
  go_enter Tryz.func171, Tryz.ntmps171
  go_wp2_with (first | (((with_reducible apply wpList_loadAll HO); exact rfl; exact rfl; (repeat (with_reducible (first | exact At.head _ | apply At.tail))); infer_instance; exact rfl; exact rfl; (simp only [Act.put, zA, zB, zC]))) | (first | ((with_reducible apply wpList_boxAgg _ HO rfl); exact rfl; exact rfl; exact rfl; clear HO; intro b1 w HO; (simp only [Act.put, zA, zB, zC])) | ((with_reducible apply wpList_allocAgg _ HO rfl); exact rfl; infer_instance; exact rfl; clear HO; intro b1 w HO; (simp only [Act.put, zA, zB, zC]))) | ((with_reducible apply wpList_storeOne HO); exact rfl; exact rfl; ((simp [Act.eval]; rfl)); exact rfl; (repeat (with_reducible (first | exact At.head _ | apply At.tail))); infer_instance; exact (by simp); (simp only [List.set_cons_zero]; rfl); exact rfl; clear HO; intro w HO; (simp only [Act.put])) | ((with_reducible apply wpList_storeAll HO); exact rfl; exact rfl; exact rfl; (repeat (with_reducible (exact At.head _))); infer_instance; exact rfl; exact rfl; exact rfl; exact rfl; clear HO; intro w HO; (simp only [Act.put])) | ((with_reducible apply wpList_loadOld1 HO); exact rfl; exact rfl; exact hlt; exact h0; infer_instance; exact rfl; (simp only [Act.put, zA, zB, zC])) | ((with_reducible apply wpList_loadOld1 HO); exact rfl; exact rfl; exact hlt1; exact h1; infer_instance; exact rfl; (simp only [Act.put, zA, zB, zC])))
  refine bodyPost_ret (results_one HO rfl rfl (by (repeat (with_reducible (exact At.head _)))) inferInstance rfl) rfl ?_
  exact ⟨rfl, HO.grown⟩

set_option maxHeartbeats 16000000 in
set_option maxRecDepth 100000 in
theorem rEntry_any {W : World} {x : RcA} {S : CoS} {A : InS} (h : RcAt W x S A) (hl : S.L.length ≤ 60) (y : HisS) :
    Calls Tryz.prog 151 #[.pointer (some ⟨x.r, 0, none⟩), .agg (rhC y).toArray] W fun e w' => e = .returned (.agg #[.int .i64 ((entH S.L.length y)).k, .int .i64 ((entH S.L.length y)).id, .string ⟨((entH S.L.length y)).ref.toArray⟩, .string ⟨((entH S.L.length y)).sku.toArray⟩, .int .i64 ((entH S.L.length y)).qty, .int .i64 ((entH S.L.length y)).amt, .int .i64 ((entH S.L.length y)).o, .int .i64 ((entH S.L.length y)).d, .int .i64 ((entH S.L.length y)).c, .int .i64 ((entH S.L.length y)).p, .int .i64 ((entH S.L.length y)).q, (.slice none 0 0)]) ∧ Below W.heap.size W w' := by
  have HO := Own.start W
  have CP := Lib.hid (fun (w : World) (hb : Below W.heap.size W w) => rcCopy_any (h.below hb))
  have MO := Lib.hid (fun (w : World) (L' : List Ent) (c : Nat) (h1 : Own W w L') (hm : rcB { x with r := c } A ∈ L') => rfOf_any (x := { x with r := c }) ⟨h1.has _ hm, (h.below h1.grown).s.re c⟩ hl)
  have SB := Lib.hid (fun (w : World) (hb : Below W.heap.size W w) => (h.below hb).s)
  clear h
  obtain ⟨k, ya, yb, ⟨oid, oref, osku, oq, oa⟩, err, id, amt, so, sd⟩ := y
  unfold rhC entH
  simp only
  by_cases hk : k = 2
  · subst hk
    rw [if_pos rfl]
    unfold zeroE
    clear CP MO SB
    go_enter Tryz.func151, Tryz.ntmps151
    go_wp2_with (first | (((with_reducible apply wpList_loadOne HO); exact rfl; exact rfl; (repeat (with_reducible (first | exact At.head _ | apply At.tail))); exact rfl; infer_instance; exact rfl; (simp only [Act.put, zA, zB, zC]))) | (first | ((with_reducible apply wpList_boxAgg _ HO rfl); exact rfl; exact rfl; exact rfl; clear HO; intro b1 w HO; (simp only [Act.put, zA, zB, zC])) | ((with_reducible apply wpList_allocAgg _ HO rfl); exact rfl; infer_instance; exact rfl; clear HO; intro b1 w HO; (simp only [Act.put, zA, zB, zC]))) | ((with_reducible apply wpList_storeAll HO); exact rfl; exact rfl; exact rfl; (repeat (with_reducible (exact At.head _))); infer_instance; exact rfl; exact rfl; exact rfl; exact rfl; clear HO; intro w HO; (simp only [Act.put])))
    refine bodyPost_ret (results_one HO rfl rfl (by (repeat (with_reducible (exact At.head _)))) inferInstance rfl) rfl ?_
    exact ⟨rfl, HO.grown⟩
  · rw [if_neg hk]
    have hk2 : (k == 2) = false := by simpa using hk
    clear hk
    have PL := Lib.hid (fun (w : World) (L' : List Ent) (b c : Nat) (v : Value) (h1 : Own W w L') (hm : mdR b c v ∈ L') (hm2 : rcB { x with r := c } A ∈ L') => rfPlace_any (b := b) (v := v) (x := { x with r := c }) (h1.has _ hm) ⟨h1.has _ hm2, (SB.out w h1.grown).re c⟩ hl ⟨oid, oref, osku, oq, oa⟩)
    unfold ordV at PL
    simp only at PL
    have KB := Lib.hid (fun (w' : World) (b3 : Nat) (hF : w'.heap[b3]? = some (.cells (rhC ⟨k, ya, yb, ⟨oid, oref, osku, oq, oa⟩, err, id, amt, so, sd⟩).toArray 126)) => part_cells (off := 3) (l := [Value.int .i64 oid, .string ⟨oref.toArray⟩, .string ⟨osku.toArray⟩, .int .i64 oq, .int .i64 oa]) hF (fun j u hu => by
      rw [Nat.add_comm]
      simp only [rhC, List.getElem?_cons_succ]
      have hj : j < 5 := (List.getElem?_eq_some_iff.1 hu).1
      match j, hj, hu with
      | 0, _, hu => exact hu
      | 1, _, hu => exact hu
      | 2, _, hu => exact hu
      | 3, _, hu => exact hu
      | 4, _, hu => exact hu))
    simp only [rhC] at KB
    go_enter Tryz.func151, Tryz.ntmps151
    go_upto_region 3 with (first | (((with_reducible apply wpList_loadOne HO); exact rfl; exact rfl; (repeat (with_reducible (first | exact At.head _ | apply At.tail))); exact rfl; infer_instance; exact rfl; (simp only [Act.put, zA, zB, zC]))) | ((have _h : Own W _ (box _ _ :: _) := HO); clear _h; (((with_reducible apply wpList_allocAgg _ HO rfl); exact rfl; infer_instance; exact rfl; clear HO; intro b4 w HO; (simp only [Act.put, zA, zB, zC])))) | (((with_reducible apply wpList_boxAgg _ HO rfl); exact rfl; exact rfl; exact rfl; clear HO; intro b3 w HO; (simp only [Act.put, zA, zB, zC]))))
    refine region_sched ([box b3 (.cells #[.int .i64 k, .int .i64 ya, .int .i64 yb, .int .i64 oid, .string ⟨oref.toArray⟩, .string ⟨osku.toArray⟩, .int .i64 oq, .int .i64 oa, .int .i64 err, .int .i64 id, .int .i64 amt, .int .i64 so.id, .string ⟨so.ref.toArray⟩, .string ⟨so.sku.toArray⟩, .int .i64 so.qty, .int .i64 so.amt, .int .i64 sd.a, .int .i64 sd.b, .int .i64 sd.c, .int .i64 sd.d, .int .i64 sd.e, .int .i64 sd.f, .bool sd.x] 126)]) [(0, true), (3, true), (4, true), (1, false), (2, false), (5, false), (6, false)] HO (by with_reducible (repeat (first | exact List.nil_sublist _ | apply List.Sublist.cons_cons | apply List.Sublist.cons))) (by kernel_rfl) (by kernel_rfl) ?_
    clear HO
    intro w HO
    repeat (first | ((with_reducible apply wpHeld_loadAt); exact rfl; exact rfl; exact rfl; exact (fun w' hw => KB.out w' b3 (hw _ List.mem_cons_self)); infer_instance; exact rfl; exact rfl; (simp only [Act.put, zA, zB, zC])) | ((with_reducible apply wpHeld_pure); exact rfl; exact rfl; (intro w'; go_simp; try with_reducible rfl); (simp only [Act.put, zA, zB, zC])))
    ((with_reducible apply wpHeld_loud); exact rfl; go_wp2_with ((go_at_call 152; go_must ((with_reducible refine (CP.out _ HO.grown).mono ?_); rintro e w ⟨c1, rfl, HO1⟩; replace HO := HO.lift HO1; clear HO1))))
    simp only [List.cons_append, List.nil_append] at HO
    refine ⟨HO.held (by with_reducible (repeat (first | exact List.nil_sublist _ | apply List.Sublist.cons_cons | apply List.Sublist.cons))), ?_⟩
    ((with_reducible apply wpHeld_loud); exact rfl; go_wp2_with ((go_at_call 170; go_must ((with_reducible refine (MO.out _ _ c1 HO List.mem_cons_self).mono ?_); rintro e w ⟨b5, c2, v5, N, rfl, HO1⟩; replace HO := HO.lift HO1; clear HO1))))
    replace HO : Own W w (box b4 _ :: box b3 _ :: (mdR b5 c2 v5 :: rcB { x with r := c2 } A :: (rcB { x with r := c1 } A :: N))) := HO.perm (by classical exact List.perm_iff_count.2 (fun x9 => by simp only [mdR, List.count_append, List.count_cons, List.count_nil, Nat.zero_add]; ac_rfl))
    refine ⟨HO.held (by with_reducible (repeat (first | exact List.nil_sublist _ | apply List.Sublist.cons_cons | apply List.Sublist.cons))), ?_⟩
    ((with_reducible apply wpHeld_loud); exact rfl; go_wp2_with ((go_at_call 171; go_must ((with_reducible refine (PL.out _ _ b5 c2 v5 HO (by simp) (by simp)).mono ?_); rintro e w ⟨rfl, hb⟩; replace HO := HO.call hb; clear hb))))
    refine ⟨HO.held (by with_reducible (repeat (first | exact List.nil_sublist _ | apply List.Sublist.cons_cons | apply List.Sublist.cons))), ?_⟩
    ((with_reducible apply wpHeld_loud); exact rfl; ((with_reducible apply wpList_storeAll HO); exact rfl; exact rfl; exact rfl; (repeat (with_reducible (exact At.head _))); infer_instance; exact rfl; exact rfl; exact rfl; exact rfl; clear HO; intro w HO; (simp only [Act.put])))
    refine wpList_nil ⟨HO.held (by with_reducible (repeat (first | exact List.nil_sublist _ | apply List.Sublist.cons_cons | apply List.Sublist.cons))), ?_⟩
    refine wpHeld_end ?_
    go_wp2_with fail
    refine bodyPost_ret (results_one HO rfl rfl (by (repeat (with_reducible (exact At.head _)))) inferInstance rfl) rfl ?_
    exact ⟨rfl, HO.grown⟩
end Go.Proofs.YtibabfedpdoofaaGreatDoor

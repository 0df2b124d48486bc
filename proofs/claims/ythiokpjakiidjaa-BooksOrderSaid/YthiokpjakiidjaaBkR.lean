/-
  The document's books: a posting posted, a balance told, by walking its text; conditions: int64 numbers, less than 100000 postings.
-/
import Derived.Test.YthiokpjakiidjaaBkH
import Derived.Test.YthiokpjakiidjaaBkS
namespace Go.Proofs.Ythiokpjakiidjaa
open Go.RowKit Go.Own Go.Maps

theorem findP_app {a b : List Pst} {x : Pst} {s : ByteArray} (hn : ∀ q ∈ a, q.id ≠ s) (h : x.id = s) : findP (a ++ x :: b) s = some x := by
  unfold findP
  rw [List.find?_append, List.find?_eq_none.2 (fun q hq => by simpa using hn q hq)]
  simp [List.find?_cons, h]
theorem findP_at {l : List Pst} {j : Nat} (hj : j < l.length) {s : ByteArray} (hn : ∀ q ∈ l.take j, q.id ≠ s) (h : l[j].id = s) : findP l s = some l[j] :=
  (congrArg (fun m => findP m s) (show l = l.take j ++ l[j] :: l.drop (j + 1) by rw [← List.drop_eq_getElem_cons hj, List.take_append_drop])).trans (findP_app hn h)
theorem findP_none {l : List Pst} {s : ByteArray} (hn : ∀ q ∈ l, q.id ≠ s) : findP l s = none := by
  unfold findP
  exact List.find?_eq_none.2 (fun q hq => by simpa using hn q hq)
def rfPs (b : Nat) (v : Value) (l : List Pst) : List Ent := [box b (.cells [v].toArray 39), row 30 5 v (l.map pstC)]
def rfE (b : Nat) (v : Value) (l : List Pst) : Ent := joinE (rfPs b v l)
structure RfAt (w : World) (b : Nat) (v : Value) (l : List Pst) : Prop where
  box : w.heap[b]? = some (.cells [v].toArray 39)
  row : (row 30 5 v (l.map pstC)).F w
theorem Own.rfAt {W w : World} {L L' : List Ent} {b : Nat} {v : Value} {l : List Pst} (hO : Own W w L) (hat : At (rfE b v l) (rfE b v l) L L') : RfAt w b v l := by
  obtain ⟨h, _⟩ := hO.has _ hat.mem
  exact ⟨h _ (.head _), h _ (.tail _ (.head _))⟩
theorem str_eq_iff (s t : ByteArray) : (s.toList == t.toList) = decide (s = t) := by
  rw [ByteArray.toList_eq, ByteArray.toList_eq]
  obtain ⟨⟨a⟩⟩ := s
  obtain ⟨⟨b⟩⟩ := t
  by_cases h : a = b <;> simp [h]

set_option maxHeartbeats 8000000 in
set_option maxRecDepth 100000 in
theorem rfBal_any {W : World} {b : Nat} {v : Value} {l : List Pst} (h : RfAt W b v l) (hB : Bk l) (hw : ∀ p ∈ l, WfP p) (n o : Int) : Calls Try.prog 17 #[.pointer (some ⟨b, 0, none⟩), .int .i64 n, .int .i64 o] W fun e w' => e = .returned (.int .i64 (bal l n o)) ∧ Below W.heap.size W w' := by
  have HO := Own.start W
  have hI := isL_of_owns (pstC_len l) h.row
  have SM := fun w (hb : Below W.heap.size W w) => sum_any n o (hI.below hb hI.lt) hw
  rw [hB.sum n o] at SM
  have hv : v.oneCell' = true := by
    rcases h.row.2 with ⟨rfl, h0⟩ | ⟨g, cap, cur, rfl, _⟩ <;> rfl
  have h0 := old_cell h.box 0 rfl
  have hlt := old_lt h.box
  have HN := Lib.hid (fun ho => bal_none hB (n := n) (o := o) (.inr (.inr ho)))
  by_cases ho : o < 0
  · rw [HN.out ho]
    clear h hB hw hI SM HN
    go_enter Try.func17, Try.ntmps17
    go_wp2_with fail
    go_ret
    exact ⟨rfl, HO.grown⟩
  · clear h hB hw hI HN
    go_enter Try.func17, Try.ntmps17
    go_wp2_with (first | go_big_skip | ((with_reducible apply wpList_loadOld1 HO); exact rfl; exact rfl; exact hlt; exact h0; infer_instance; exact rfl; (simp only [Act.put, List.setIfInBounds_toArray, List.set_cons_succ, List.set_cons_zero])) | (go_at_call 26; go_must ((with_reducible refine (SM _ HO.grown).mono ?_); rintro e w ⟨rfl, hb⟩; replace HO := HO.call hb; clear hb)))
    go_ret
    exact ⟨rfl, HO.grown⟩

set_option maxHeartbeats 16000000 in
set_option maxRecDepth 100000 in
theorem rfPost_own {W w : World} {M : List Ent} {b : Nat} {v : Value} {l : List Pst} (p : Pst) (HO : Own W w (rfPs b v l ++ M)) (hB : Bk l) (hw : ∀ p ∈ l, WfP p) (hp : WfP p) (hlen : l.length ≤ 100000) :
    Calls Try.prog 16 #[.pointer (some ⟨b, 0, none⟩), pstV p] w fun e w' => e = .returned (.int .i64 (postE l p)) ∧ ∃ v', Own W w' (rfPs b v' (postL l p) ++ M) := by
  replace HO : Own W w (box b (.cells [v].toArray 39) :: row 30 5 v (l.map pstC) :: M) := HO
  obtain ⟨⟨sp, sc, rfl⟩, -⟩ := HO.rowForm (v := v) (.tail _ _ _ (.head _))
  rw [List.length_map] at HO
  have MY := fun w => mayR_any p w
  cases hm : mayPst p
  · have e1 : postE l p = 2 := by simp [postE, hm]
    have e2 : postL l p = l := by simp [postL, hm]
    rw [e1, e2]
    rw [hm] at MY
    clear e1 e2 hm hB hp hw
    obtain ⟨id, o, d, c, a⟩ := p
    simp only [pstV, pstC] at *
    go_enter Try.func16, Try.ntmps16
    go_wp2_with (first | (first | go_big_skip | ((with_reducible apply wpList_loadAll HO); exact rfl; exact rfl; (repeat (with_reducible (first | exact At.head _ | apply At.tail))); infer_instance; exact rfl; exact rfl; (simp only [Act.put, List.setIfInBounds_toArray, List.set_cons_succ, List.set_cons_zero])) | ((with_reducible apply wpList_loadOne HO); exact rfl; exact rfl; (repeat (with_reducible (first | exact At.head _ | apply At.tail))); exact rfl; infer_instance; exact rfl; (simp only [Act.put, List.setIfInBounds_toArray, List.set_cons_succ, List.set_cons_zero]))) | (first | ((with_reducible apply wpList_boxAgg _ HO rfl); exact rfl; exact rfl; exact rfl; clear HO; intro b3 w HO; (simp only [Act.put, List.setIfInBounds_toArray, List.set_cons_succ, List.set_cons_zero])) | ((with_reducible apply wpList_allocAgg _ HO rfl); exact rfl; infer_instance; exact rfl; clear HO; intro b3 w HO; (simp only [Act.put, List.setIfInBounds_toArray, List.set_cons_succ, List.set_cons_zero]))) | (go_at_call 25; go_must ((with_reducible refine (MY _).mono ?_); rintro e w ⟨rfl, hb⟩; replace HO := HO.call hb; clear hb)))
    go_ret
    exact ⟨rfl, _, HO.tail⟩
  rw [hm] at MY
  have HE := Lib.hid (show postE l p = (match findP l p.id with | some q => if q = p then 0 else 91 | none => if fitsPst l p = true then 0 else 90) by rw [postE, if_pos hm]; cases findP l p.id <;> rfl)
  have HL := Lib.hid (show postL l p = if ((findP l p.id).isNone && fitsPst l p) = true then l ++ [p] else l by rw [postL, hm, Bool.true_and])
  have HS := Lib.hid (hB.sum_more p hm)
  have HFt := Lib.hid (show fitsPst l p = (inI (bal l p.d 0 + p.a) && inI (bal l p.c 0 - p.a) && (inI (bal l p.d p.o + p.a) && inI (bal l p.c p.o - p.a))) from rfl)
  have HW := Lib.hid (show ∀ q ∈ l ++ [p], WfP q from fun q hq => by
    rcases List.mem_append.1 hq with hq | hq
    · exact hw q hq
    · rw [List.mem_singleton.1 hq]; exact hp)
  have hpc : (l ++ [p]).map pstC = l.map pstC ++ [pstC p] := by simp
  replace hpc := Lib.hid hpc
  have hEq := fun q w => run_pst_eql q p w
  have hlx : (l.length : Int) ≤ 100000 := by omega
  generalize postE l p = ex at *
  generalize postL l p = lx at *
  clear hB hp hw
  obtain ⟨id, o, d, c, a⟩ := p
  simp only [pstV, pstC] at *
  go_enter Try.func16, Try.ntmps16
  go_wp2_with (first | (first | go_big_skip | ((with_reducible apply wpList_loadAll HO); exact rfl; exact rfl; (repeat (with_reducible (first | exact At.head _ | apply At.tail))); infer_instance; exact rfl; exact rfl; (simp only [Act.put, List.setIfInBounds_toArray, List.set_cons_succ, List.set_cons_zero])) | ((with_reducible apply wpList_loadOne HO); exact rfl; exact rfl; (repeat (with_reducible (first | exact At.head _ | apply At.tail))); exact rfl; infer_instance; exact rfl; (simp only [Act.put, List.setIfInBounds_toArray, List.set_cons_succ, List.set_cons_zero]))) | (first | ((with_reducible apply wpList_boxAgg _ HO rfl); exact rfl; exact rfl; exact rfl; clear HO; intro b3 w HO; (simp only [Act.put, List.setIfInBounds_toArray, List.set_cons_succ, List.set_cons_zero])) | ((with_reducible apply wpList_allocAgg _ HO rfl); exact rfl; infer_instance; exact rfl; clear HO; intro b3 w HO; (simp only [Act.put, List.setIfInBounds_toArray, List.set_cons_succ, List.set_cons_zero]))) | (go_at_call 25; go_must ((with_reducible refine (MY _).mono ?_); rintro e w ⟨rfl, hb⟩; replace HO := HO.call hb; clear hb)))
  go_loopw [5] (fun i wr => ∃ j : Nat, j ≤ l.length ∧ i = .int .i64 (j : Int) ∧ (∀ q ∈ l.take j, q.id ≠ id) ∧ Own W wr (box b3 (.cells #[.string id, .int .i64 o, .int .i64 d, .int .i64 c, .int .i64 a] 30) :: box b (.cells #[.slice sp l.length sc] 39) :: row 30 5 (.slice sp l.length sc) (l.map pstC) :: M)) (fun i _ => l.length - (intOf i).toNat)
  case atStart => exact ⟨0, by omega, rfl, by simp, HO⟩
  case round =>
    clear HO
    obtain ⟨j, hj, rfl, hnf, HO⟩ := hrel
    by_cases hjl : j < l.length
    · have hjI : (j : Int) < (l.length : Int) := by omega
      obtain ⟨p1, c1, hsl⟩ := (HO.rowForm (v := .slice sp l.length sc) (.tail _ _ _ (.tail _ _ _ (.head _)))).2 (by rw [List.length_map]; omega)
      obtain ⟨rfl, -, rfl⟩ : sp = some p1 ∧ l.length = (l.map pstC).length ∧ sc = c1 := by simpa using hsl
      clear hsl
      have hget : (l.map pstC)[j]? = some (pstC l[j]) := by simp [hjl]
      have HA := Lib.hid (fun w' (h1 : Own W w' (box b3 (.cells #[.string id, .int .i64 o, .int .i64 d, .int .i64 c, .int .i64 a] 30) :: box b (.cells #[.slice (some p1) l.length sc] 39) :: row 30 5 (.slice (some p1) l.length sc) (l.map pstC) :: M)) => h1.rowAt (.tail _ _ _ (.tail _ _ _ (.head _))) (pstC_len l) hget)
      have HN := Lib.hid (fun h => findP_at hjl hnf h)
      have HX := Lib.hid (show l[j].id ≠ id → ∀ q ∈ l.take (j + 1), q.id ≠ id from fun h q hq => by
        rw [List.take_succ_eq_append_getElem hjl] at hq
        rcases List.mem_append.1 hq with hq | hq
        · exact hnf q hq
        · rw [List.mem_singleton.1 hq]; exact h)
      have hEq := hEq l[j]
      clear hget hnf
      generalize l[j] = q at *
      have hse := str_eq_iff q.id id
      generalize hx : decide (q = (⟨id, o, d, c, a⟩ : Pst)) = x at *
      replace hx := Lib.hid hx
      obtain ⟨qi, qo, qd, qc, qa⟩ := q
      simp only [pstC] at HA hEq hse HX HN
      by_cases hid : qi = id
      · have HQ := Lib.hid (HE.out.trans (by rw [HN.out hid]))
        have HM := Lib.hid (HL.out.trans (by rw [HN.out hid]))
        rw [decide_eq_true hid] at hse
        clear HE HL HN HX hid
        go_upto_region 6 with (first | (first | go_big_skip | ((with_reducible apply wpList_loadAll HO); exact rfl; exact rfl; (repeat (with_reducible (first | exact At.head _ | apply At.tail))); infer_instance; exact rfl; exact rfl; (simp only [Act.put, List.setIfInBounds_toArray, List.set_cons_succ, List.set_cons_zero])) | ((with_reducible apply wpList_loadOne HO); exact rfl; exact rfl; (repeat (with_reducible (first | exact At.head _ | apply At.tail))); exact rfl; infer_instance; exact rfl; (simp only [Act.put, List.setIfInBounds_toArray, List.set_cons_succ, List.set_cons_zero]))))
        refine region_own HO (by kernel_rfl) (by kernel_rfl) ?_
        clear HO
        intro F HF
        repeat (first | (first | (first | go_big_quiet_skip | ((with_reducible apply wpQuiet_loadAll HF); exact rfl; exact rfl; (repeat (with_reducible (first | exact At.head _ | apply At.tail))); infer_instance; exact rfl; exact rfl; (simp only [Act.put, List.setIfInBounds_toArray, List.set_cons_succ, List.set_cons_zero])) | ((with_reducible apply wpQuiet_loadOne HF); exact rfl; exact rfl; (repeat (with_reducible (first | exact At.head _ | apply At.tail))); exact rfl; infer_instance; exact rfl; (simp only [Act.put, List.setIfInBounds_toArray, List.set_cons_succ, List.set_cons_zero])) | ((with_reducible apply wpQuiet_loadPart HF); exact rfl; exact rfl; (repeat (with_reducible (first | exact At.head _ | apply At.tail))); infer_instance; exact (Nat.le_of_ble_eq_true rfl); (simp only [List.drop_succ_cons, List.drop_zero, List.take_succ_cons, List.take_zero]; rfl); exact rfl; (simp only [Act.put, List.setIfInBounds_toArray, List.set_cons_succ, List.set_cons_zero]))) | ((with_reducible apply wpQuiet_loadAt1 HF); exact rfl; exact rfl; exact (fun w' h1 => HA.out w' h1 0 _ rfl); infer_instance; exact rfl; (simp only [Act.put, List.setIfInBounds_toArray, List.set_cons_succ, List.set_cons_zero])) | ((with_reducible apply wpQuiet_loadAt1 HF); exact rfl; exact rfl; exact (fun w' h1 => add0 _ ▸ HA.out w' h1 0 _ rfl); infer_instance; exact rfl; (simp only [Act.put, List.setIfInBounds_toArray, List.set_cons_succ, List.set_cons_zero])) | ((with_reducible apply wpQuiet_loadAt HF); exact rfl; exact rfl; exact (fun w' h1 => HA.out w' h1); infer_instance; exact rfl; exact rfl; (simp only [Act.put, List.setIfInBounds_toArray, List.set_cons_succ, List.set_cons_zero]))) | go_big_quiet_step (fail))
        refine wpQuiet_nil ?_
        intro x
        have HO := HF.own x
        clear HF
        generalize F x = w at *
        clear x F
        go_upto_region 7 with (first | (first | go_big_skip | ((with_reducible apply wpList_loadAll HO); exact rfl; exact rfl; (repeat (with_reducible (first | exact At.head _ | apply At.tail))); infer_instance; exact rfl; exact rfl; (simp only [Act.put, List.setIfInBounds_toArray, List.set_cons_succ, List.set_cons_zero])) | ((with_reducible apply wpList_loadOne HO); exact rfl; exact rfl; (repeat (with_reducible (first | exact At.head _ | apply At.tail))); exact rfl; infer_instance; exact rfl; (simp only [Act.put, List.setIfInBounds_toArray, List.set_cons_succ, List.set_cons_zero]))))
        refine region_own HO (by kernel_rfl) (by kernel_rfl) ?_
        clear HO
        intro F HF
        repeat (first | (first | (first | go_big_quiet_skip | ((with_reducible apply wpQuiet_loadAll HF); exact rfl; exact rfl; (repeat (with_reducible (first | exact At.head _ | apply At.tail))); infer_instance; exact rfl; exact rfl; (simp only [Act.put, List.setIfInBounds_toArray, List.set_cons_succ, List.set_cons_zero])) | ((with_reducible apply wpQuiet_loadOne HF); exact rfl; exact rfl; (repeat (with_reducible (first | exact At.head _ | apply At.tail))); exact rfl; infer_instance; exact rfl; (simp only [Act.put, List.setIfInBounds_toArray, List.set_cons_succ, List.set_cons_zero])) | ((with_reducible apply wpQuiet_loadPart HF); exact rfl; exact rfl; (repeat (with_reducible (first | exact At.head _ | apply At.tail))); infer_instance; exact (Nat.le_of_ble_eq_true rfl); (simp only [List.drop_succ_cons, List.drop_zero, List.take_succ_cons, List.take_zero]; rfl); exact rfl; (simp only [Act.put, List.setIfInBounds_toArray, List.set_cons_succ, List.set_cons_zero]))) | ((with_reducible apply wpQuiet_loadAt1 HF); exact rfl; exact rfl; exact (fun w' h1 => HA.out w' h1 0 _ rfl); infer_instance; exact rfl; (simp only [Act.put, List.setIfInBounds_toArray, List.set_cons_succ, List.set_cons_zero])) | ((with_reducible apply wpQuiet_loadAt1 HF); exact rfl; exact rfl; exact (fun w' h1 => add0 _ ▸ HA.out w' h1 0 _ rfl); infer_instance; exact rfl; (simp only [Act.put, List.setIfInBounds_toArray, List.set_cons_succ, List.set_cons_zero])) | ((with_reducible apply wpQuiet_loadAt HF); exact rfl; exact rfl; exact (fun w' h1 => HA.out w' h1); infer_instance; exact rfl; exact rfl; (simp only [Act.put, List.setIfInBounds_toArray, List.set_cons_succ, List.set_cons_zero]))) | go_big_quiet_step (fail))
        refine wpQuiet_nil ?_
        intro x
        have HO := HF.own x
        clear HF
        generalize F x = w at *
        clear x F
        cases x
        · obtain rfl : ex = 91 := HQ.out.trans (if_neg (of_decide_eq_false hx.out))
          obtain rfl : lx = l := HM.out
          go_wp2_with (first | (first | go_big_skip | ((with_reducible apply wpList_loadAll HO); exact rfl; exact rfl; (repeat (with_reducible (first | exact At.head _ | apply At.tail))); infer_instance; exact rfl; exact rfl; (simp only [Act.put, List.setIfInBounds_toArray, List.set_cons_succ, List.set_cons_zero])) | ((with_reducible apply wpList_loadOne HO); exact rfl; exact rfl; (repeat (with_reducible (first | exact At.head _ | apply At.tail))); exact rfl; infer_instance; exact rfl; (simp only [Act.put, List.setIfInBounds_toArray, List.set_cons_succ, List.set_cons_zero]))))
          go_ret
          exact ⟨rfl, _, HO.tail⟩
        · obtain rfl : ex = 0 := HQ.out.trans (if_pos (of_decide_eq_true hx.out))
          obtain rfl : lx = l := HM.out
          go_wp2_with (first | (first | go_big_skip | ((with_reducible apply wpList_loadAll HO); exact rfl; exact rfl; (repeat (with_reducible (first | exact At.head _ | apply At.tail))); infer_instance; exact rfl; exact rfl; (simp only [Act.put, List.setIfInBounds_toArray, List.set_cons_succ, List.set_cons_zero])) | ((with_reducible apply wpList_loadOne HO); exact rfl; exact rfl; (repeat (with_reducible (first | exact At.head _ | apply At.tail))); exact rfl; infer_instance; exact rfl; (simp only [Act.put, List.setIfInBounds_toArray, List.set_cons_succ, List.set_cons_zero]))))
          go_ret
          exact ⟨rfl, _, HO.tail⟩
      · have HZ := Lib.hid (HX.out hid)
        rw [decide_eq_false hid] at hse
        clear HX hid
        go_upto_region 6 with (first | (first | go_big_skip | ((with_reducible apply wpList_loadAll HO); exact rfl; exact rfl; (repeat (with_reducible (first | exact At.head _ | apply At.tail))); infer_instance; exact rfl; exact rfl; (simp only [Act.put, List.setIfInBounds_toArray, List.set_cons_succ, List.set_cons_zero])) | ((with_reducible apply wpList_loadOne HO); exact rfl; exact rfl; (repeat (with_reducible (first | exact At.head _ | apply At.tail))); exact rfl; infer_instance; exact rfl; (simp only [Act.put, List.setIfInBounds_toArray, List.set_cons_succ, List.set_cons_zero]))))
        refine region_own HO (by kernel_rfl) (by kernel_rfl) ?_
        clear HO
        intro F HF
        repeat (first | (first | (first | go_big_quiet_skip | ((with_reducible apply wpQuiet_loadAll HF); exact rfl; exact rfl; (repeat (with_reducible (first | exact At.head _ | apply At.tail))); infer_instance; exact rfl; exact rfl; (simp only [Act.put, List.setIfInBounds_toArray, List.set_cons_succ, List.set_cons_zero])) | ((with_reducible apply wpQuiet_loadOne HF); exact rfl; exact rfl; (repeat (with_reducible (first | exact At.head _ | apply At.tail))); exact rfl; infer_instance; exact rfl; (simp only [Act.put, List.setIfInBounds_toArray, List.set_cons_succ, List.set_cons_zero])) | ((with_reducible apply wpQuiet_loadPart HF); exact rfl; exact rfl; (repeat (with_reducible (first | exact At.head _ | apply At.tail))); infer_instance; exact (Nat.le_of_ble_eq_true rfl); (simp only [List.drop_succ_cons, List.drop_zero, List.take_succ_cons, List.take_zero]; rfl); exact rfl; (simp only [Act.put, List.setIfInBounds_toArray, List.set_cons_succ, List.set_cons_zero]))) | ((with_reducible apply wpQuiet_loadAt1 HF); exact rfl; exact rfl; exact (fun w' h1 => HA.out w' h1 0 _ rfl); infer_instance; exact rfl; (simp only [Act.put, List.setIfInBounds_toArray, List.set_cons_succ, List.set_cons_zero])) | ((with_reducible apply wpQuiet_loadAt1 HF); exact rfl; exact rfl; exact (fun w' h1 => add0 _ ▸ HA.out w' h1 0 _ rfl); infer_instance; exact rfl; (simp only [Act.put, List.setIfInBounds_toArray, List.set_cons_succ, List.set_cons_zero])) | ((with_reducible apply wpQuiet_loadAt HF); exact rfl; exact rfl; exact (fun w' h1 => HA.out w' h1); infer_instance; exact rfl; exact rfl; (simp only [Act.put, List.setIfInBounds_toArray, List.set_cons_succ, List.set_cons_zero]))) | go_big_quiet_step (fail))
        refine wpQuiet_nil ?_
        intro x
        have HO := HF.own x
        clear HF
        generalize F x = w at *
        clear x F
        go_wp2_with (first | (first | go_big_skip | ((with_reducible apply wpList_loadAll HO); exact rfl; exact rfl; (repeat (with_reducible (first | exact At.head _ | apply At.tail))); infer_instance; exact rfl; exact rfl; (simp only [Act.put, List.setIfInBounds_toArray, List.set_cons_succ, List.set_cons_zero])) | ((with_reducible apply wpList_loadOne HO); exact rfl; exact rfl; (repeat (with_reducible (first | exact At.head _ | apply At.tail))); exact rfl; infer_instance; exact rfl; (simp only [Act.put, List.setIfInBounds_toArray, List.set_cons_succ, List.set_cons_zero]))))
        go_roundw
        case rel => exact ⟨j + 1, by omega, by go_num, HZ.out, HO⟩
        case measure => simp [intOf] <;> omega
    · obtain rfl : j = l.length := by omega
      rw [List.take_length] at hnf
      have hfp := findP_none hnf
      have HQ := Lib.hid (HE.out.trans (by rw [hfp]))
      have HM := Lib.hid (HL.out.trans (by rw [hfp]))
      clear hnf hfp HE HL
      have HL5 := Lib.hid (pstC_len l)
      have H1 := Lib.hid (pstC_one l)
      replace HO := HO.nil 30 5
      go_upto_region 10 with (first | (first | go_big_skip | ((with_reducible apply wpList_loadAll HO); exact rfl; exact rfl; (repeat (with_reducible (first | exact At.head _ | apply At.tail))); infer_instance; exact rfl; exact rfl; (simp only [Act.put, List.setIfInBounds_toArray, List.set_cons_succ, List.set_cons_zero])) | ((with_reducible apply wpList_loadOne HO); exact rfl; exact rfl; (repeat (with_reducible (first | exact At.head _ | apply At.tail))); exact rfl; infer_instance; exact rfl; (simp only [Act.put, List.setIfInBounds_toArray, List.set_cons_succ, List.set_cons_zero]))))
      go_cut [6] (fun x wx => ∃ v3 : Value, x = v3 ∧ Own W wx (row 30 5 v3 ((l ++ [(⟨id, o, d, c, a⟩ : Pst)]).map pstC) :: box b3 (.cells #[.string id, .int .i64 o, .int .i64 d, .int .i64 c, .int .i64 a] 30) :: box b (.cells #[.slice sp l.length sc] 39) :: row 30 5 (.slice sp l.length sc) (l.map pstC) :: M))
      case first =>
        refine region_tree ([box b3 (.cells #[.string id, .int .i64 o, .int .i64 d, .int .i64 c, .int .i64 a] 30), box b (.cells #[.slice sp l.length sc] 39)]) [(0, true), (1, true), (2, true), (3, true), (5, true), (4, false), (6, false), (7, false), (8, true)] ((.fork [(0, true), (1, true), (2, true), (3, true), (5, true)] 4 6 (.fin [(6, false), (7, false), (8, true)]) (.fin [(4, false), (7, false), (8, true)]))) HO (by with_reducible (repeat (first | exact List.nil_sublist _ | apply List.Sublist.cons_cons | apply List.Sublist.cons))) (by kernel_rfl) (by kernel_rfl) ?_
        clear HO
        intro w HO
        refine wpS_fork ?_
        repeat (first | ((with_reducible apply wpSched_loadOne); exact rfl; exact rfl; exact rfl; (repeat (with_reducible (first | exact At.head _ | apply At.tail))); exact rfl; infer_instance; exact rfl; (simp only [Act.put, List.setIfInBounds_toArray, List.set_cons_succ, List.set_cons_zero])) | ((with_reducible apply wpSched_loadAll); exact rfl; exact rfl; exact rfl; (repeat (with_reducible (first | exact At.head _ | apply At.tail))); infer_instance; exact rfl; exact rfl; (simp only [Act.put, List.setIfInBounds_toArray, List.set_cons_succ, List.set_cons_zero])) | ((with_reducible apply wpSched_pure); exact rfl; exact rfl; (intro w'; go_simp; try with_reducible rfl); (simp only [Act.put, List.setIfInBounds_toArray, List.set_cons_succ, List.set_cons_zero])))
        refine fork_end rfl rfl ?_ ?_
        · ((with_reducible apply wpList_appendAll HO); exact rfl; infer_instance; infer_instance; (first | (simp [Act.eval]; rfl) | exact rfl); exact rfl; exact (isL_of_owns (pstC_len l) (HO.has (row 30 5 (.slice sp l.length sc) (l.map pstC)) (by repeat (first | exact List.mem_cons_self | apply List.mem_cons_of_mem)))); exact HL5.out; exact H1.out; intro _; (repeat (with_reducible (first | exact At.head _ | apply At.tail))); (first | omega | (simp; omega)); decide; exact rfl; clear HO; intro v2 w HO hv2; (simp only [Act.put, List.setIfInBounds_toArray, List.set_cons_succ, List.set_cons_zero]))
          refine wpList_nil (thenQ_keep (HO.held (by with_reducible (repeat (first | exact List.nil_sublist _ | apply List.Sublist.cons_cons | apply List.Sublist.cons)))) ?_)
          refine wpS_fin ?_
          ((with_reducible apply wpSched_loud); exact rfl; (first | ((with_reducible apply wpList_lit1 HO); exact rfl; infer_instance; infer_instance; exact rfl; exact rfl; exact (by decide); exact rfl; clear HO; intro bl w HO; (simp only [Act.put, List.setIfInBounds_toArray, List.set_cons_succ, List.set_cons_zero])) | ((with_reducible apply wpList_lit1c HO); exact rfl; infer_instance; infer_instance; (first | (simp [Act.eval]; rfl) | exact rfl); exact rfl; exact rfl; clear HO; intro bl w HO; (simp only [Act.put, List.setIfInBounds_toArray, List.set_cons_succ, List.set_cons_zero]))))
          refine wpList_nil (thenQ_keep (HO.held (by with_reducible (repeat (first | exact List.nil_sublist _ | apply List.Sublist.cons_cons | apply List.Sublist.cons)))) ?_)
          ((with_reducible apply wpSched_loud); exact rfl; ((with_reducible apply wpList_push1 HO); exact rfl; infer_instance; infer_instance; (first | (simp [Act.eval]; rfl) | exact rfl); exact rfl; intro _; (repeat (with_reducible (first | exact At.head _ | apply At.tail))); exact rfl; exact rfl; (first | omega | (simp; omega)); decide; exact rfl; clear HO; intro v2 w HO hv2; (simp only [Act.put, List.setIfInBounds_toArray, List.set_cons_succ, List.set_cons_zero])))
          refine wpList_nil (thenQ_free (by kernel_rfl) ?_)
          ((with_reducible apply wpSched_pure); exact rfl; exact rfl; (intro w'; go_simp; try with_reducible rfl); (simp only [Act.put, List.setIfInBounds_toArray, List.set_cons_succ, List.set_cons_zero]))
          refine wpSched_end ?_
          go_wp2_with fail
          go_meet
          refine ⟨_, rfl, ?_⟩
          rw [hpc.out]
          simpa using HO
        · (first | ((with_reducible apply wpList_lit1 HO); exact rfl; infer_instance; infer_instance; exact rfl; exact rfl; exact (by decide); exact rfl; clear HO; intro bl w HO; (simp only [Act.put, List.setIfInBounds_toArray, List.set_cons_succ, List.set_cons_zero])) | ((with_reducible apply wpList_lit1c HO); exact rfl; infer_instance; infer_instance; (first | (simp [Act.eval]; rfl) | exact rfl); exact rfl; exact rfl; clear HO; intro bl w HO; (simp only [Act.put, List.setIfInBounds_toArray, List.set_cons_succ, List.set_cons_zero])))
          refine wpList_nil (thenQ_keep (HO.held (by with_reducible (repeat (first | exact List.nil_sublist _ | apply List.Sublist.cons_cons | apply List.Sublist.cons)))) ?_)
          refine wpS_fin ?_
          ((with_reducible apply wpSched_loud); exact rfl; ((with_reducible apply wpList_appendAll HO); exact rfl; infer_instance; infer_instance; (first | (simp [Act.eval]; rfl) | exact rfl); exact rfl; exact (isL_of_owns (pstC_len l) (HO.has (row 30 5 (.slice sp l.length sc) (l.map pstC)) (by repeat (first | exact List.mem_cons_self | apply List.mem_cons_of_mem)))); exact HL5.out; exact H1.out; intro _; (repeat (with_reducible (first | exact At.head _ | apply At.tail))); (first | omega | (simp; omega)); decide; exact rfl; clear HO; intro v2 w HO hv2; (simp only [Act.put, List.setIfInBounds_toArray, List.set_cons_succ, List.set_cons_zero])))
          refine wpList_nil (thenQ_keep (HO.held (by with_reducible (repeat (first | exact List.nil_sublist _ | apply List.Sublist.cons_cons | apply List.Sublist.cons)))) ?_)
          ((with_reducible apply wpSched_loud); exact rfl; ((with_reducible apply wpList_push1 HO); exact rfl; infer_instance; infer_instance; (first | (simp [Act.eval]; rfl) | exact rfl); exact rfl; intro _; (repeat (with_reducible (first | exact At.head _ | apply At.tail))); exact rfl; exact rfl; (first | omega | (simp; omega)); decide; exact rfl; clear HO; intro v2 w HO hv2; (simp only [Act.put, List.setIfInBounds_toArray, List.set_cons_succ, List.set_cons_zero])))
          refine wpList_nil (thenQ_free (by kernel_rfl) ?_)
          ((with_reducible apply wpSched_pure); exact rfl; exact rfl; (intro w'; go_simp; try with_reducible rfl); (simp only [Act.put, List.setIfInBounds_toArray, List.set_cons_succ, List.set_cons_zero]))
          refine wpSched_end ?_
          go_wp2_with fail
          go_meet
          refine ⟨_, rfl, ?_⟩
          rw [hpc.out]
          simpa using HO
      clear HO
      obtain ⟨v3, rfl, HO⟩ := hcut
      obtain ⟨⟨p3, c3, rfl⟩, -⟩ := HO.rowForm (.head _)
      have SM := fun w (n o' : Int) (h : Own W w (row 30 5 (.slice p3 ((l ++ [(⟨id, o, d, c, a⟩ : Pst)]).map pstC).length c3) ((l ++ [(⟨id, o, d, c, a⟩ : Pst)]).map pstC) :: box b3 (.cells #[.string id, .int .i64 o, .int .i64 d, .int .i64 c, .int .i64 a] 30) :: box b (.cells #[.slice sp l.length sc] 39) :: row 30 5 (.slice sp l.length sc) (l.map pstC) :: M)) => sum_any n o' (isL_of_owns (pstC_len _) (h.has _ (.head _))) HW.out
      obtain ⟨s1, s2, s3, s4⟩ := HS.out
      have hF := HFt.out
      try simp only at s1 s2 s3 s4 hF
      rw [← s1, ← s2, ← s3, ← s4] at hF
      clear s1 s2 s3 s4 HS HFt HW hpc HL5 H1
      have S1 := fun w => SM w d o
      have S2 := fun w => SM w c o
      have S3 := fun w => SM w d 0
      have S4 := fun w => SM w c 0
      clear SM
      generalize l ++ [(⟨id, o, d, c, a⟩ : Pst)] = lp at *
      generalize (lp.map pstC).length = n3 at *
      generalize sumR lp d o = r1 at *
      generalize sumR lp c o = r2 at *
      generalize sumR lp d 0 = r3 at *
      generalize sumR lp c 0 = r4 at *
      obtain ⟨x1, k1⟩ := r1
      obtain ⟨x2, k2⟩ := r2
      obtain ⟨x3, k3⟩ := r3
      obtain ⟨x4, k4⟩ := r4
      try simp only at hF S1 S2 S3 S4
      have HF := Lib.hid hF
      clear hF
      go_upto_region 12 with (first | (first | go_big_skip | ((with_reducible apply wpList_loadAll HO); exact rfl; exact rfl; (repeat (with_reducible (first | exact At.head _ | apply At.tail))); infer_instance; exact rfl; exact rfl; (simp only [Act.put, List.setIfInBounds_toArray, List.set_cons_succ, List.set_cons_zero])) | ((with_reducible apply wpList_loadOne HO); exact rfl; exact rfl; (repeat (with_reducible (first | exact At.head _ | apply At.tail))); exact rfl; infer_instance; exact rfl; (simp only [Act.put, List.setIfInBounds_toArray, List.set_cons_succ, List.set_cons_zero]))) | (go_at_call 26; go_must ((with_reducible refine (S1 _ HO).mono ?_); rintro e w ⟨rfl, hb⟩; replace HO := HO.call hb; clear hb)))
      go_upto_region 13 with (first | (first | go_big_skip | ((with_reducible apply wpList_loadAll HO); exact rfl; exact rfl; (repeat (with_reducible (first | exact At.head _ | apply At.tail))); infer_instance; exact rfl; exact rfl; (simp only [Act.put, List.setIfInBounds_toArray, List.set_cons_succ, List.set_cons_zero])) | ((with_reducible apply wpList_loadOne HO); exact rfl; exact rfl; (repeat (with_reducible (first | exact At.head _ | apply At.tail))); exact rfl; infer_instance; exact rfl; (simp only [Act.put, List.setIfInBounds_toArray, List.set_cons_succ, List.set_cons_zero]))) | (go_at_call 26; go_must ((with_reducible refine (S2 _ HO).mono ?_); rintro e w ⟨rfl, hb⟩; replace HO := HO.call hb; clear hb)))
      go_upto_region 14 with (first | (first | go_big_skip | ((with_reducible apply wpList_loadAll HO); exact rfl; exact rfl; (repeat (with_reducible (first | exact At.head _ | apply At.tail))); infer_instance; exact rfl; exact rfl; (simp only [Act.put, List.setIfInBounds_toArray, List.set_cons_succ, List.set_cons_zero])) | ((with_reducible apply wpList_loadOne HO); exact rfl; exact rfl; (repeat (with_reducible (first | exact At.head _ | apply At.tail))); exact rfl; infer_instance; exact rfl; (simp only [Act.put, List.setIfInBounds_toArray, List.set_cons_succ, List.set_cons_zero]))) | (go_at_call 26; go_must ((with_reducible refine (S3 _ HO).mono ?_); rintro e w ⟨rfl, hb⟩; replace HO := HO.call hb; clear hb)))
      go_upto_region 15 with (first | (first | go_big_skip | ((with_reducible apply wpList_loadAll HO); exact rfl; exact rfl; (repeat (with_reducible (first | exact At.head _ | apply At.tail))); infer_instance; exact rfl; exact rfl; (simp only [Act.put, List.setIfInBounds_toArray, List.set_cons_succ, List.set_cons_zero])) | ((with_reducible apply wpList_loadOne HO); exact rfl; exact rfl; (repeat (with_reducible (first | exact At.head _ | apply At.tail))); exact rfl; infer_instance; exact rfl; (simp only [Act.put, List.setIfInBounds_toArray, List.set_cons_succ, List.set_cons_zero]))) | (go_at_call 26; go_must ((with_reducible refine (S4 _ HO).mono ?_); rintro e w ⟨rfl, hb⟩; replace HO := HO.call hb; clear hb)))
      cases k1
      · clear S1 S2 S3 S4
        obtain rfl : ex = 90 := HQ.out.trans (if_neg (by rw [HF.out]; simp))
        obtain rfl : lx = l := HM.out.trans (if_neg (by rw [HF.out]; simp))
        go_wp2_with (first | (first | go_big_skip | ((with_reducible apply wpList_loadAll HO); exact rfl; exact rfl; (repeat (with_reducible (first | exact At.head _ | apply At.tail))); infer_instance; exact rfl; exact rfl; (simp only [Act.put, List.setIfInBounds_toArray, List.set_cons_succ, List.set_cons_zero])) | ((with_reducible apply wpList_loadOne HO); exact rfl; exact rfl; (repeat (with_reducible (first | exact At.head _ | apply At.tail))); exact rfl; infer_instance; exact rfl; (simp only [Act.put, List.setIfInBounds_toArray, List.set_cons_succ, List.set_cons_zero]))))
        go_ret
        exact ⟨rfl, _, HO.tail.tail⟩
      cases k2
      · clear S1 S2 S3 S4
        obtain rfl : ex = 90 := HQ.out.trans (if_neg (by rw [HF.out]; simp))
        obtain rfl : lx = l := HM.out.trans (if_neg (by rw [HF.out]; simp))
        go_wp2_with (first | (first | go_big_skip | ((with_reducible apply wpList_loadAll HO); exact rfl; exact rfl; (repeat (with_reducible (first | exact At.head _ | apply At.tail))); infer_instance; exact rfl; exact rfl; (simp only [Act.put, List.setIfInBounds_toArray, List.set_cons_succ, List.set_cons_zero])) | ((with_reducible apply wpList_loadOne HO); exact rfl; exact rfl; (repeat (with_reducible (first | exact At.head _ | apply At.tail))); exact rfl; infer_instance; exact rfl; (simp only [Act.put, List.setIfInBounds_toArray, List.set_cons_succ, List.set_cons_zero]))))
        go_ret
        exact ⟨rfl, _, HO.tail.tail⟩
      cases k3
      · clear S1 S2 S3 S4
        obtain rfl : ex = 90 := HQ.out.trans (if_neg (by rw [HF.out]; simp))
        obtain rfl : lx = l := HM.out.trans (if_neg (by rw [HF.out]; simp))
        go_wp2_with (first | (first | go_big_skip | ((with_reducible apply wpList_loadAll HO); exact rfl; exact rfl; (repeat (with_reducible (first | exact At.head _ | apply At.tail))); infer_instance; exact rfl; exact rfl; (simp only [Act.put, List.setIfInBounds_toArray, List.set_cons_succ, List.set_cons_zero])) | ((with_reducible apply wpList_loadOne HO); exact rfl; exact rfl; (repeat (with_reducible (first | exact At.head _ | apply At.tail))); exact rfl; infer_instance; exact rfl; (simp only [Act.put, List.setIfInBounds_toArray, List.set_cons_succ, List.set_cons_zero]))))
        go_ret
        exact ⟨rfl, _, HO.tail.tail⟩
      cases k4
      · clear S1 S2 S3 S4
        obtain rfl : ex = 90 := HQ.out.trans (if_neg (by rw [HF.out]; simp))
        obtain rfl : lx = l := HM.out.trans (if_neg (by rw [HF.out]; simp))
        go_wp2_with (first | (first | go_big_skip | ((with_reducible apply wpList_loadAll HO); exact rfl; exact rfl; (repeat (with_reducible (first | exact At.head _ | apply At.tail))); infer_instance; exact rfl; exact rfl; (simp only [Act.put, List.setIfInBounds_toArray, List.set_cons_succ, List.set_cons_zero])) | ((with_reducible apply wpList_loadOne HO); exact rfl; exact rfl; (repeat (with_reducible (first | exact At.head _ | apply At.tail))); exact rfl; infer_instance; exact rfl; (simp only [Act.put, List.setIfInBounds_toArray, List.set_cons_succ, List.set_cons_zero]))))
        go_ret
        exact ⟨rfl, _, HO.tail.tail⟩
      obtain rfl : ex = 0 := HQ.out.trans (if_pos (by rw [HF.out]; rfl))
      obtain rfl : lx = lp := HM.out.trans (if_pos (by rw [HF.out]; rfl))
      clear S1 S2 S3 S4
      go_wp2_with (first | (first | go_big_skip | ((with_reducible apply wpList_loadAll HO); exact rfl; exact rfl; (repeat (with_reducible (first | exact At.head _ | apply At.tail))); infer_instance; exact rfl; exact rfl; (simp only [Act.put, List.setIfInBounds_toArray, List.set_cons_succ, List.set_cons_zero])) | ((with_reducible apply wpList_loadOne HO); exact rfl; exact rfl; (repeat (with_reducible (first | exact At.head _ | apply At.tail))); exact rfl; infer_instance; exact rfl; (simp only [Act.put, List.setIfInBounds_toArray, List.set_cons_succ, List.set_cons_zero]))) | ((with_reducible apply wpList_storeOne HO); exact rfl; exact rfl; (first | (simp [Act.eval]; rfl) | exact rfl); exact rfl; (repeat (with_reducible (first | exact At.head _ | apply At.tail))); infer_instance; exact (by simp); (simp only [List.set_cons_succ, List.set_cons_zero]; rfl); exact rfl; clear HO; intro w HO; (simp only [Act.put])))
      go_ret
      exact ⟨rfl, _, ((HO.sub (.cons_cons _ (.cons _ (.cons_cons _ (.cons _ (List.Sublist.refl _)))))).swap)⟩
theorem rfPost_any {W w : World} {L : List Ent} {L' : Value → List Ent} {b : Nat} {v : Value} {l : List Pst} (p : Pst) (HO : Own W w L) (hat : ∀ v', At (rfE b v l) (rfE b v' (postL l p)) L (L' v')) (hB : Bk l) (hw : ∀ p ∈ l, WfP p) (hp : WfP p) (hlen : l.length ≤ 100000) :
    Calls Try.prog 16 #[.pointer (some ⟨b, 0, none⟩), pstV p] w fun e w' => e = .returned (.int .i64 (postE l p)) ∧ ∃ v', Own W w' (L' v') := by
  obtain ⟨M, p1, p2⟩ := At.fronts hat v
  refine (rfPost_own p (HO.perm p1).unjoin hB hw hp hlen).mono fun e w' h => ?_
  obtain ⟨rfl, v', h1⟩ := h
  exact ⟨rfl, v', (Own.join h1).perm (p2 v').symm⟩
end Go.Proofs.Ythiokpjakiidjaa

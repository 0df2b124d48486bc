/-
  The law FixedBack returns true, by walking its text; conditions: the fields and the widths' bytes lie in memory.
-/
import Derived.Test.YtklommbknfpolaaDoorFixBackL2
namespace Go.Proofs.YtklommbknfpolaaDoor
open Go.RowKit Go.Own

theorem own_sts {W w : World} {L : List Ent} {p : Option Addr} {n c : Nat} {fs : List (List UInt8)} (hO : Own W w L) (hm : row 9 1 (.slice p n c) (fs.map strC) ∈ L) : IsStrs w (.slice p n c) (fs.map fun f => ⟨f.toArray⟩) := parse_sts hO hm
set_option maxHeartbeats 8000000 in
set_option maxRecDepth 100000 in
theorem fixedBack_any {W : World} {v vd : Value} {ss : List ByteArray} {ds : List Nat} (pos : Nat) (h : IsStrs W v ss) (hd : IsL W 1 vd (ds.map fun n : Nat => [.int .u8 (n : Int)])) (hn : ∀ n ∈ ds, n ≤ 255) (hp : pos ≤ 65535) :
    Calls Tryd.prog 5 #[v, vd, .int .u16 (pos : Int)] W fun e w' => e = .returned (.bool true) ∧ Below W.heap.size W w' := by
  have HH := Lib.hid h
  have HD := Lib.hid hd
  have HN := Lib.hid hn
  obtain ⟨sp, sc, rfl, hmx⟩ := h.slice
  obtain ⟨tp, tc, rfl, hmt⟩ := hd.slice
  rw [List.length_map] at hmx hmt HH HD ⊢
  rw [List.length_map]
  have hmx' : (ss.length : Int) ≤ 9223372036854775807 := by unfold maxLen at hmx; omega
  have hmt' : (ds.length : Int) ≤ 9223372036854775807 := by unfold maxLen at hmt; omega
  clear h hd hn
  have HO := Own.start W
  by_cases h1 : (40 : Int) < (ss.length : Int)
  · go_enter Tryd.func5, Tryd.ntmps5
    go_wp2_with (first | (first | go_big_skip | ((with_reducible apply wpList_loadAll HO); exact rfl; exact rfl; (repeat (with_reducible (first | exact At.head _ | apply At.tail))); infer_instance; exact rfl; exact rfl; (simp only [Act.put, List.setIfInBounds_toArray, List.set_cons_succ, List.set_cons_zero])) | ((with_reducible apply wpList_loadOne HO); exact rfl; exact rfl; (repeat (with_reducible (first | exact At.head _ | apply At.tail))); exact rfl; infer_instance; exact rfl; (simp only [Act.put, List.setIfInBounds_toArray, List.set_cons_succ, List.set_cons_zero]))) | (go_at_call 7; go_must ((with_reducible refine (lined_any _).mono ?_); rintro e w ⟨rfl, hb⟩; replace HO := HO.call hb; clear hb)))
    go_ret
    exact ⟨rfl, HO.grown⟩
  replace HO : Own W W [row 3 1 (.slice none 0 0) (((widB ss ds).take 0).map natC), row 9 1 (.slice none 0 0) ((ownB (ss.take 0)).map strC)] := (HO.nil 9 1).nil 3 1
  go_enter Tryd.func5, Tryd.ntmps5
  go_wp2_with fail
  go_loopw [7, 8, 9, 10] (fun o f al i wr => ∃ (j : Nat) (op fp : Option Addr) (oc fc : Nat), j ≤ ss.length ∧ i = .int .i64 (j : Int) ∧ al = .int .i64 ((((widB ss ds).take j).sum : Nat) : Int) ∧ f = .slice fp j fc ∧ o = .slice op j oc ∧ (∀ s ∈ ss.take j, s.size ≤ 100) ∧ Own W wr [row 3 1 (.slice fp j fc) (((widB ss ds).take j).map natC), row 9 1 (.slice op j oc) ((ownB (ss.take j)).map strC)]) (fun _ _ _ i _ => ss.length - (intOf i).toNat)
  case atStart => exact ⟨0, none, none, 0, 0, by omega, rfl, rfl, rfl, rfl, by simp, HO⟩
  case round =>
    clear HO
    obtain ⟨j, op, fp, oc, fc, hj, rfl, rfl, rfl, rfl, h100, HO⟩ := hrel
    by_cases hjl : j < ss.length
    · have hjI : (j : Int) < (ss.length : Int) := by omega
      obtain ⟨a, rfl, hst⟩ := oldOne HH.out rfl hjl
      replace hst := Lib.hid hst
      have HT := Lib.hid (widB_take (ds := ds) hjl)
      have HU := Lib.hid (ownB_take hjl)
      have hS : ∀ n ∈ (widB ss ds).take j, n ≤ 356 := fun n hm => by
        obtain ⟨i, hi, rfl⟩ := List.mem_iff_getElem.1 hm
        rw [List.length_take, widB_len] at hi
        have h1 := h100 ss[i] (List.mem_take_iff_getElem.2 ⟨i, by omega, rfl⟩)
        have h2 : ds.getD i 0 ≤ 255 := by
          rw [List.getD_eq_getElem?_getD]
          cases h : ds[i]? with
          | none => simp
          | some d => exact HN.out d (List.mem_of_getElem? h)
        simp only [widB, List.getElem_take, List.getElem_mapIdx]
        omega
      have hsum : ((widB ss ds).take j).sum ≤ 356 * 40 := by
        have hl : ((widB ss ds).take j).length ≤ 40 := by rw [List.length_take]; omega
        have key : ∀ (l : List Nat), (∀ n ∈ l, n ≤ 356) → l.sum ≤ 356 * l.length := fun l => by
          induction l with
          | nil => simp
          | cons x l ih =>
            intro h
            have h1 := h x (by simp)
            have h2 := ih (fun n hn => h n (by simp [hn]))
            simp only [List.sum_cons, List.length_cons]
            omega
        have := key _ hS
        omega
      have hfl : ((widB ss ds).take j).length = j := by rw [List.length_take, widB_len]; omega
      have hol : (ownB (ss.take j)).length = j := by simp [ownB]; omega
      have h100' : ss[j].size ≤ 100 → ∀ s ∈ ss.take (j + 1), s.size ≤ 100 := fun hz s hs => by
        rw [List.take_succ_eq_append_getElem hjl] at hs
        rcases List.mem_append.1 hs with hs | hs
        · exact h100 s hs
        · rw [List.mem_singleton.1 hs]; exact hz
      replace h100' := Lib.hid h100'
      clear hS h100
      generalize ss[j] = s at *
      by_cases hbig : (100 : Int) < (s.size : Int)
      · go_wp2_with (first | (first | go_big_skip | ((with_reducible apply wpList_loadAll HO); exact rfl; exact rfl; (repeat (with_reducible (first | exact At.head _ | apply At.tail))); infer_instance; exact rfl; exact rfl; (simp only [Act.put, List.setIfInBounds_toArray, List.set_cons_succ, List.set_cons_zero])) | ((with_reducible apply wpList_loadOne HO); exact rfl; exact rfl; (repeat (with_reducible (first | exact At.head _ | apply At.tail))); exact rfl; infer_instance; exact rfl; (simp only [Act.put, List.setIfInBounds_toArray, List.set_cons_succ, List.set_cons_zero]))) | ((with_reducible apply wpList_loadAt1 HO); exact rfl; exact rfl; exact (fun w' h1 => hst.out w' h1.grown); infer_instance; exact rfl; (simp only [Act.put, List.setIfInBounds_toArray, List.set_cons_succ, List.set_cons_zero])) | (go_at_call 7; go_must ((with_reducible refine (lined_any _).mono ?_); rintro e w ⟨rfl, hb⟩; replace HO := HO.call hb; clear hb)))
        go_ret
        exact ⟨rfl, HO.grown⟩
      have hs100 : s.size ≤ 100 := by omega
      have CLN := fun w => clean_any (W := w) s hs100
      have hw1 : IntKind.i64.wrap ((s.size : Int) + 1) = ((s.size + 1 : Nat) : Int) := by rw [IntKind.wrap_i64]; omega
      have HV := Lib.hid (show [Value.string (cleanB s)] = strC ((tx s).map cl) from rfl)
      generalize hA : (widB ss ds).take j = A at *
      generalize hB : ownB (ss.take j) = B at *
      generalize cleanB s = z at *
      replace hA := Lib.hid hA
      replace hB := Lib.hid hB
      by_cases hjd : j < ds.length
      · have hjD : (j : Int) < (ds.length : Int) := by omega
        obtain ⟨a2, rfl, hst2⟩ := oldOne (f := fun n : Nat => Value.int .u8 (n : Int)) HD.out rfl hjd
        replace hst2 := Lib.hid hst2
        have hn255 := HN.out ds[j] (List.getElem_mem hjd)
        have hgd : ds.getD j 0 = ds[j] := by rw [List.getD_eq_getElem?_getD, List.getElem?_eq_getElem hjd]; rfl
        rw [hgd] at HT
        clear hgd
        generalize ds[j] = d at *
        have hw2 : IntKind.i64.wrap (d : Int) = (d : Int) := by rw [IntKind.wrap_i64]; omega
        have hw3 : IntKind.i64.wrap ((s.size : Int) + 1 + (d : Int)) = ((s.size + 1 + d : Nat) : Int) := by rw [IntKind.wrap_i64]; omega
        have hw4 : IntKind.i64.wrap (((s.size + 1 : Nat) : Int) + (d : Int)) = ((s.size + 1 + d : Nat) : Int) := by rw [IntKind.wrap_i64]; omega
        have hw5 : IntKind.i64.wrap ((A.sum : Int) + ((s.size + 1 + d : Nat) : Int)) = ((A.sum + (s.size + 1 + d) : Nat) : Int) := by rw [IntKind.wrap_i64]; omega
        generalize s.size + 1 + d = q at *
        -- the end, printed by mkback.py
        go_wp2_with (first | (first | go_big_skip | ((with_reducible apply wpList_loadAll HO); exact rfl; exact rfl; (repeat (with_reducible (first | exact At.head _ | apply At.tail))); infer_instance; exact rfl; exact rfl; (simp only [Act.put, List.setIfInBounds_toArray, List.set_cons_succ, List.set_cons_zero])) | ((with_reducible apply wpList_loadOne HO); exact rfl; exact rfl; (repeat (with_reducible (first | exact At.head _ | apply At.tail))); exact rfl; infer_instance; exact rfl; (simp only [Act.put, List.setIfInBounds_toArray, List.set_cons_succ, List.set_cons_zero]))) | ((with_reducible apply wpList_loadAt1 HO); exact rfl; exact rfl; exact (fun w' h1 => hst.out w' h1.grown); infer_instance; exact rfl; (simp only [Act.put, List.setIfInBounds_toArray, List.set_cons_succ, List.set_cons_zero])) | ((with_reducible apply wpList_loadAt1 HO); exact rfl; exact rfl; exact (fun w' h1 => hst2.out w' h1.grown); infer_instance; exact rfl; (simp only [Act.put, List.setIfInBounds_toArray, List.set_cons_succ, List.set_cons_zero])) | (go_at_call 13; go_must ((with_reducible refine (CLN _).mono ?_); rintro e w ⟨rfl, hb⟩; replace HO := HO.call hb; clear hb)) | ((with_reducible apply wpList_push1 (A := B.map strC) HO); exact rfl; infer_instance; infer_instance; (first | (simp [Act.eval]; rfl) | exact rfl); exact rfl; intro _; (repeat (with_reducible (first | exact At.head _ | apply At.tail))); exact rfl; exact rfl; (first | omega | (simp; omega)); decide; exact rfl; clear HO; intro vS w HO hv2; clear hv2; (simp only [Act.put, List.setIfInBounds_toArray, List.set_cons_succ, List.set_cons_zero])) | ((with_reducible apply wpList_push1 (A := A.map natC) HO); exact rfl; infer_instance; infer_instance; (first | (simp [Act.eval]; rfl) | exact rfl); exact rfl; intro _; (repeat (with_reducible (first | exact At.head _ | apply At.tail))); exact rfl; exact rfl; (first | omega | (simp; omega)); decide; exact rfl; clear HO; intro vI w HO hv2; clear hv2; (simp only [Act.put, List.setIfInBounds_toArray, List.set_cons_succ, List.set_cons_zero])) | (first | ((with_reducible apply wpList_lit1 HO); exact rfl; infer_instance; infer_instance; exact rfl; exact rfl; exact (by decide); exact rfl; clear HO; intro bb w HO; (simp only [Act.put, List.setIfInBounds_toArray, List.set_cons_succ, List.set_cons_zero])) | ((with_reducible apply wpList_lit1c HO); exact rfl; infer_instance; infer_instance; (first | (simp [Act.eval]; rfl) | exact rfl); exact rfl; exact rfl; clear HO; intro bb w HO; (simp only [Act.put, List.setIfInBounds_toArray, List.set_cons_succ, List.set_cons_zero]))))
        obtain ⟨p3, c3, rfl⟩ := (HO.rowForm (t := 9) (k := 1) (v := vS) (A := B.map strC ++ [[.string z]]) (by (repeat (with_reducible (first | exact At.head _ | apply At.tail))))).1
        obtain ⟨p4, c4, rfl⟩ := (HO.rowForm (t := 3) (k := 1) (v := vI) (A := A.map natC ++ [[.int .i64 (q : Int)]]) (by (repeat (with_reducible (first | exact At.head _ | apply At.tail))))).1
        have e1 : (B.map strC ++ [[Value.string z]]).length = j + 1 := by simp [hol]
        have e2 : (A.map natC ++ [[Value.int .i64 (q : Int)]]).length = j + 1 := by simp [hfl]
        rw [e1, e2, HV.out] at HO
        rw [e1, e2]
        go_roundw
        case rel => exact ⟨j + 1, p3, p4, c3, c4, by omega, by go_num, by rw [HT.out, List.sum_append]; simp, rfl, rfl, h100'.out hs100, by rw [HT.out, HU.out, List.map_append, List.map_append]; exact HO⟩
        case measure => simp [intOf] <;> omega
      · have hjD : ¬ (j : Int) < (ds.length : Int) := by omega
        have hgd : ds.getD j 0 = 0 := by rw [List.getD_eq_getElem?_getD, List.getElem?_eq_none (by omega)]; rfl
        rw [hgd, Nat.add_zero] at HT
        clear hgd
        have hw5 : IntKind.i64.wrap ((A.sum : Int) + ((s.size + 1 : Nat) : Int)) = ((A.sum + (s.size + 1) : Nat) : Int) := by rw [IntKind.wrap_i64]; omega
        have hcast : ((s.size : Int) + 1) = ((s.size + 1 : Nat) : Int) := by omega
        generalize s.size + 1 = q at *
        go_wp2_with (first | (first | go_big_skip | ((with_reducible apply wpList_loadAll HO); exact rfl; exact rfl; (repeat (with_reducible (first | exact At.head _ | apply At.tail))); infer_instance; exact rfl; exact rfl; (simp only [Act.put, List.setIfInBounds_toArray, List.set_cons_succ, List.set_cons_zero])) | ((with_reducible apply wpList_loadOne HO); exact rfl; exact rfl; (repeat (with_reducible (first | exact At.head _ | apply At.tail))); exact rfl; infer_instance; exact rfl; (simp only [Act.put, List.setIfInBounds_toArray, List.set_cons_succ, List.set_cons_zero]))) | ((with_reducible apply wpList_loadAt1 HO); exact rfl; exact rfl; exact (fun w' h1 => hst.out w' h1.grown); infer_instance; exact rfl; (simp only [Act.put, List.setIfInBounds_toArray, List.set_cons_succ, List.set_cons_zero])) | (go_at_call 13; go_must ((with_reducible refine (CLN _).mono ?_); rintro e w ⟨rfl, hb⟩; replace HO := HO.call hb; clear hb)) | ((with_reducible apply wpList_push1 (A := B.map strC) HO); exact rfl; infer_instance; infer_instance; (first | (simp [Act.eval]; rfl) | exact rfl); exact rfl; intro _; (repeat (with_reducible (first | exact At.head _ | apply At.tail))); exact rfl; exact rfl; (first | omega | (simp; omega)); decide; exact rfl; clear HO; intro vS w HO hv2; clear hv2; (simp only [Act.put, List.setIfInBounds_toArray, List.set_cons_succ, List.set_cons_zero])) | ((with_reducible apply wpList_push1 (A := A.map natC) HO); exact rfl; infer_instance; infer_instance; (first | (simp [Act.eval]; rfl) | exact rfl); exact rfl; intro _; (repeat (with_reducible (first | exact At.head _ | apply At.tail))); exact rfl; exact rfl; (first | omega | (simp; omega)); decide; exact rfl; clear HO; intro vI w HO hv2; clear hv2; (simp only [Act.put, List.setIfInBounds_toArray, List.set_cons_succ, List.set_cons_zero])) | (first | ((with_reducible apply wpList_lit1 HO); exact rfl; infer_instance; infer_instance; exact rfl; exact rfl; exact (by decide); exact rfl; clear HO; intro bb w HO; (simp only [Act.put, List.setIfInBounds_toArray, List.set_cons_succ, List.set_cons_zero])) | ((with_reducible apply wpList_lit1c HO); exact rfl; infer_instance; infer_instance; (first | (simp [Act.eval]; rfl) | exact rfl); exact rfl; exact rfl; clear HO; intro bb w HO; (simp only [Act.put, List.setIfInBounds_toArray, List.set_cons_succ, List.set_cons_zero]))))
        obtain ⟨p3, c3, rfl⟩ := (HO.rowForm (t := 9) (k := 1) (v := vS) (A := B.map strC ++ [[.string z]]) (by (repeat (with_reducible (first | exact At.head _ | apply At.tail))))).1
        obtain ⟨p4, c4, rfl⟩ := (HO.rowForm (t := 3) (k := 1) (v := vI) (A := A.map natC ++ [[.int .i64 (q : Int)]]) (by (repeat (with_reducible (first | exact At.head _ | apply At.tail))))).1
        have e1 : (B.map strC ++ [[Value.string z]]).length = j + 1 := by simp [hol]
        have e2 : (A.map natC ++ [[Value.int .i64 (q : Int)]]).length = j + 1 := by simp [hfl]
        rw [e1, e2, HV.out] at HO
        rw [e1, e2]
        go_roundw
        case rel => exact ⟨j + 1, p3, p4, c3, c4, by omega, by go_num, by rw [HT.out, List.sum_append]; simp, rfl, rfl, h100'.out hs100, by rw [HT.out, HU.out, List.map_append, List.map_append]; exact HO⟩
        case measure => simp [intOf] <;> omega
    obtain rfl : j = ss.length := by omega
    rw [List.take_length] at HO h100
    rw [List.take_of_length_le (by rw [widB_len]; exact Nat.le_refl _)] at HO ⊢
    have hwm := widB_mem (ds := ds) h100 HN.out
    have hok : okW (intsOf (widB ss ds)) = true := okW_nats (by rw [widB_len]; omega) (fun n hn => by have := hwm n hn; omega)
    have hfl : (ownB ss).length = ss.length := by simp [ownB]
    obtain ⟨hpr, hpa⟩ := print_back (fs := ownB ss) hok (by rw [widB_len, hfl]) (widB_fits ss ds)
    obtain ⟨-, hll, hlo⟩ := line_back (widB ss ds) (ownB ss) (by rw [widB_len, hfl]) (widB_fits ss ds)
    have hsum := sum_356 _ hwm
    rw [widB_len] at hsum
    have hsm : ∀ f ∈ ownB ss, f.length ≤ 100 := fun f hf => by
      obtain ⟨s, hs, rfl⟩ := List.mem_map.1 hf
      rw [List.length_map]
      exact h100 s hs
    generalize widB ss ds = ns at *
    generalize ownB ss = fs at *
    obtain ⟨S, hS⟩ : ∃ S : ByteArray, tx S = lineF (intsOf ns) fs := ⟨⟨(lineF (intsOf ns) fs).toArray⟩, by simp [tx]⟩
    rw [← hS] at hpr hpa hll hlo
    have hSs : S.size = ns.sum := hll
    have P0 : ∀ (w : World) (L : List Ent), Own W w L → row 3 1 (.slice fp ss.length fc) (ns.map natC) ∈ L → row 9 1 (.slice op ss.length oc) (fs.map strC) ∈ L → Calls Tryd.prog 8 #[.slice fp ss.length fc, .slice op ss.length oc] w fun e w' => e = .returned (.string S) ∧ Below w.heap.size w w' := fun w L hO hm hm2 => by
      have := print_any (row_ints hO hm) (parse_sts hO hm2) (fun s2 hs2 => by
        obtain ⟨f, hf, rfl⟩ := List.mem_map.1 hs2
        have := hsm f hf
        show f.length ≤ _
        omega)
      rw [List.map_map, show (fs.map (tx ∘ fun f => (⟨f.toArray⟩ : ByteArray))) = fs from (List.map_congr_left (fun f _ => rfl)).trans (List.map_id _), hpr, ← of_tx] at this
      exact this
    have P1 : ∀ (w : World) (L : List Ent), Own W w L → row 3 1 (.slice fp ss.length fc) (ns.map natC) ∈ L → Calls Tryd.prog 10 #[.slice fp ss.length fc, .string S] w fun e w' => ∃ p c, e = .returned (.tuple #[.slice p ss.length c, .int .i64 0]) ∧ Own w w' [row 9 1 (.slice p ss.length c) (fs.map strC)] := fun w L hO hm => by
      have := parse_any S (row_ints hO hm) (by omega)
      rw [hpa] at this
      refine this.mono fun e w' he => ?_
      obtain ⟨p, c, e1, e2⟩ := he
      simp only [hfl] at e1 e2
      exact ⟨p, c, e1, e2⟩
    have PN : ∀ (y : ByteArray) (col : Int), parseF (intsOf ns) (tx y) = ([], col) → y.size ≤ 1000000 → ∀ (w : World) (L : List Ent), Own W w L → row 3 1 (.slice fp ss.length fc) (ns.map natC) ∈ L → Calls Tryd.prog 10 #[.slice fp ss.length fc, .string y] w fun e w' => ∃ p c, e = .returned (.tuple #[.slice p 0 c, .int .i64 col]) ∧ Below w.heap.size w w' := fun y col hy hz w L hO hm => by
      have := parse_any y (row_ints hO hm) (by omega)
      rw [hy] at this
      refine this.mono fun e w' he => ?_
      obtain ⟨p, c, e1, e2⟩ := he
      exact ⟨p, c, e1, e2.grown⟩
    have SM : ∀ (w : World) (L : List Ent) (p : Option Addr) (c : Nat), Own W w L → row 9 1 (.slice p ss.length c) (fs.map strC) ∈ L → row 9 1 (.slice op ss.length oc) (fs.map strC) ∈ L → Calls Tryd.prog 12 #[.slice p ss.length c, .slice op ss.length oc] w fun e w' => e = .returned (.bool true) ∧ Below w.heap.size w w' := fun w L p c hO hm hm2 => by
      have := same_any (parse_sts hO hm) (parse_sts hO hm2)
      rwa [decide_eq_true rfl] at this
    have hx1 : (S ++ (⟨#[120]⟩ : ByteArray)).size = S.size + 1 := by rw [ByteArray.size_append]; rfl
    have HX := PN (S ++ ⟨#[120]⟩) ((ns.sum : Int) + 1) (parse_more hok (by show (S ++ (⟨#[120]⟩ : ByteArray)).size = _; omega)) (by omega)
    have hc1 : ¬ (9223372036854775807 < S.size + (⟨#[120]⟩ : ByteArray).size) := by
      show ¬ (9223372036854775807 < S.size + 1)
      omega
    have hc2 : ¬ (9223372036854775807 < S.size + 1) := by omega
    have hw1 : IntKind.i64.wrap ((ns.sum : Int) + 1) = (ns.sum : Int) + 1 := by rw [IntKind.wrap_i64]; omega
    have hse : ((S.size : Int) == (ns.sum : Int)) = true := by rw [hSs]; simp
    have hse2 : ((S.size : Int) != (ns.sum : Int)) = false := by rw [hSs]; simp
    by_cases h0 : ns.sum = 0
    · have hz : ((ns.sum : Int) == 0) = true := by rw [h0]; rfl
      replace h0 := Lib.hid h0
      clear hx1 hll hlo hpr hpa hS hok hwm hsm hsum
      replace hSs := Lib.hid hSs
      generalize ns.sum = sm at *
      go_wp2_with (first | (first | go_big_skip | ((with_reducible apply wpList_loadAll HO); exact rfl; exact rfl; (repeat (with_reducible (first | exact At.head _ | apply At.tail))); infer_instance; exact rfl; exact rfl; (simp only [Act.put, List.setIfInBounds_toArray, List.set_cons_succ, List.set_cons_zero])) | ((with_reducible apply wpList_loadOne HO); exact rfl; exact rfl; (repeat (with_reducible (first | exact At.head _ | apply At.tail))); exact rfl; infer_instance; exact rfl; (simp only [Act.put, List.setIfInBounds_toArray, List.set_cons_succ, List.set_cons_zero]))) | (go_at_call 8; go_must ((with_reducible refine (P0 _ _ HO (by repeat (first | exact List.mem_cons_self | apply List.mem_cons_of_mem)) (by repeat (first | exact List.mem_cons_self | apply List.mem_cons_of_mem))).mono ?_); (rintro e w ⟨rfl, hb⟩; replace HO := HO.call hb; clear hb))) | (go_at_call 10; first | ((with_reducible refine (P1 _ _ HO (by repeat (first | exact List.mem_cons_self | apply List.mem_cons_of_mem))).mono ?_); rintro e w ⟨p5, c5, rfl, HO1⟩; replace HO := HO.lift HO1; clear HO1; simp only [List.cons_append, List.nil_append] at HO) | ((with_reducible refine (HX _ _ HO (by repeat (first | exact List.mem_cons_self | apply List.mem_cons_of_mem))).mono ?_); rintro e w ⟨p6, c6, rfl, hb⟩; replace HO := HO.call hb; clear hb)) | (go_at_call 12; go_must ((with_reducible refine (SM _ _ _ _ HO (by repeat (first | exact List.mem_cons_self | apply List.mem_cons_of_mem)) (by repeat (first | exact List.mem_cons_self | apply List.mem_cons_of_mem))).mono ?_); rintro e w ⟨rfl, hb⟩; replace HO := HO.call hb; clear hb)) | (go_at_call 7; go_must ((with_reducible refine (lined_any _).mono ?_); rintro e w ⟨rfl, hb⟩; replace HO := HO.call hb; clear hb)))
      go_ret
      exact ⟨rfl, HO.grown⟩
    obtain ⟨m, hm⟩ : ∃ m, ns.sum = m + 1 := ⟨ns.sum - 1, by omega⟩
    have hxl := size_extract S 0 m (by omega) (by omega)
    have HLS := PN (S.extract 0 m) (ns.sum : Int) (parse_less hok (by show (S.extract 0 m).size + 1 = _; omega)) (by omega)
    obtain ⟨k, hk⟩ : ∃ k, k = pos % (m + 1) := ⟨_, rfl⟩
    have hkl : k < m + 1 := by rw [hk]; exact Nat.mod_lt _ (by omega)
    have e2 := size_extract S 0 k (by omega) (by omega)
    have e3 := size_extract S (k + 1) S.size (Nat.le_refl _) (by omega)
    have hox : tx (S.extract 0 k ++ ⟨#[31]⟩ ++ S.extract (k + 1) S.size) = (tx S).take k ++ 31 :: (tx S).drop (k + 1) := by
      rw [cat_tx, cat_tx, tx_extract, tx_extract, List.drop_zero, Nat.sub_zero, List.append_assoc]
      congr 1
      show (31 : UInt8) :: _ = _
      congr 1
      exact List.take_of_length_le (by rw [List.length_drop]; show S.size - (k + 1) ≤ _; omega)
    have e5 : (S.extract 0 k ++ (⟨#[31]⟩ : ByteArray)).size = k + 1 := by rw [ByteArray.size_append, e2]; rfl
    have e6 : (S.extract 0 k ++ (⟨#[31]⟩ : ByteArray) ++ S.extract (k + 1) S.size).size = S.size := by rw [ByteArray.size_append, e5, e3]; omega
    have HOD := PN (S.extract 0 k ++ ⟨#[31]⟩ ++ S.extract (k + 1) S.size) ((k : Int) + 1) (by rw [hox]; exact parse_odd hok hll (by show k < S.size; omega) hlo) (by omega)
    have hz : ((m : Int) + 1 == 0) = false := by simp only [beq_eq_false_iff_ne, ne_eq]; omega
    have hc3 : ¬ (9223372036854775807 < (S.extract 0 k).size + (⟨#[31]⟩ : ByteArray).size) := by
      show ¬ (9223372036854775807 < (S.extract 0 k).size + 1)
      omega
    have hc4 : ¬ (9223372036854775807 < (S.extract 0 k).size + 1) := by omega
    have hc5 : ¬ (9223372036854775807 < (S.extract 0 k ++ (⟨#[31]⟩ : ByteArray)).size + (S.extract (k + 1) S.size).size) := by omega
    have hc6 : ¬ (9223372036854775807 < min k S.size + 1) := by omega
    have hc7 : ¬ (9223372036854775807 < min k S.size + 1 + (S.size - (k + 1))) := by omega
    have hwp : IntKind.i64.wrap (pos : Int) = (pos : Int) := by rw [IntKind.wrap_i64]; omega
    have hkI : (pos : Int).tmod ((m : Int) + 1) = (k : Int) := by rw [Int.tmod_eq_emod_of_nonneg (by omega), hk]; rfl
    have hnz : ¬ ((m : Int) + 1 = 0) := by omega
    have hwk : IntKind.i64.wrap ((k : Int) + 1) = (k : Int) + 1 := by rw [IntKind.wrap_i64]; omega
    have g1 : (m : Int) ≤ (S.size : Int) := by omega
    have g2 : (k : Int) ≤ (S.size : Int) := by omega
    have g3 : (k : Int) + 1 ≤ (S.size : Int) := by omega
    have g5 : (0 : Int) ≤ (k : Int) + 1 := by omega
    have g4 : ((m : Int) + 1 != 0) = true := by simp only [bne_iff_ne, ne_eq]; omega
    rw [hm] at HX HLS hse hse2 hw1 ⊢
    rw [show (((m + 1 : Nat)) : Int) = (m : Int) + 1 by omega] at HX HLS hse hse2 hw1 ⊢
    clear hx1 hll hlo hpr hpa hS hok hwm hsm hsum h0 hk hox e2 e3 e5 e6 hxl hkl
    replace hSs := Lib.hid hSs
    replace hm := Lib.hid hm
    go_upto_region 27 with (first | (first | go_big_skip | ((with_reducible apply wpList_loadAll HO); exact rfl; exact rfl; (repeat (with_reducible (first | exact At.head _ | apply At.tail))); infer_instance; exact rfl; exact rfl; (simp only [Act.put, List.setIfInBounds_toArray, List.set_cons_succ, List.set_cons_zero])) | ((with_reducible apply wpList_loadOne HO); exact rfl; exact rfl; (repeat (with_reducible (first | exact At.head _ | apply At.tail))); exact rfl; infer_instance; exact rfl; (simp only [Act.put, List.setIfInBounds_toArray, List.set_cons_succ, List.set_cons_zero]))) | (go_at_call 8; go_must ((with_reducible refine (P0 _ _ HO (by repeat (first | exact List.mem_cons_self | apply List.mem_cons_of_mem)) (by repeat (first | exact List.mem_cons_self | apply List.mem_cons_of_mem))).mono ?_); (rintro e w ⟨rfl, hb⟩; replace HO := HO.call hb; clear hb))) | (go_at_call 10; first | ((with_reducible refine (P1 _ _ HO (by repeat (first | exact List.mem_cons_self | apply List.mem_cons_of_mem))).mono ?_); rintro e w ⟨p5, c5, rfl, HO1⟩; replace HO := HO.lift HO1; clear HO1; simp only [List.cons_append, List.nil_append] at HO) | ((with_reducible refine (HX _ _ HO (by repeat (first | exact List.mem_cons_self | apply List.mem_cons_of_mem))).mono ?_); rintro e w ⟨p6, c6, rfl, hb⟩; replace HO := HO.call hb; clear hb) | ((with_reducible refine (HLS _ _ HO (by repeat (first | exact List.mem_cons_self | apply List.mem_cons_of_mem))).mono ?_); rintro e w ⟨p7, c7, rfl, hb⟩; replace HO := HO.call hb; clear hb)) | (go_at_call 12; go_must ((with_reducible refine (SM _ _ _ _ HO (by repeat (first | exact List.mem_cons_self | apply List.mem_cons_of_mem)) (by repeat (first | exact List.mem_cons_self | apply List.mem_cons_of_mem))).mono ?_); rintro e w ⟨rfl, hb⟩; replace HO := HO.call hb; clear hb)) | (go_at_call 7; go_must ((with_reducible refine (lined_any _).mono ?_); rintro e w ⟨rfl, hb⟩; replace HO := HO.call hb; clear hb)))
    refine region_sched2 ([]) [(0, true), (1, true), (2, true), (3, true), (4, true), (5, true), (6, true), (7, true), (8, true), (9, true), (10, false), (11, true), (12, true), (13, true), (14, true), (15, true)] HO (by with_reducible (repeat (first | exact List.nil_sublist _ | apply List.Sublist.cons_cons | apply List.Sublist.cons))) (by kernel_rfl) (by kernel_rfl) ?_
    clear HO
    intro w HO
    repeat ((with_reducible apply wpSched_pure); exact rfl; exact rfl; (intro w'; go_simp; try with_reducible rfl); (simp only [Act.put, List.setIfInBounds_toArray, List.set_cons_succ, List.set_cons_zero]))
    ((with_reducible apply wpSched_loud); exact rfl; go_wp2_with ((go_at_call 10; go_must ((with_reducible refine (HOD _ _ HO (by repeat (first | exact List.mem_cons_self | apply List.mem_cons_of_mem))).mono ?_); rintro e w ⟨p8, c8, rfl, hb⟩; replace HO := HO.call hb; clear hb))))
    refine thenQ_keep (HO.held (by with_reducible (repeat (first | exact List.nil_sublist _ | apply List.Sublist.cons_cons | apply List.Sublist.cons)))) ?_
    repeat ((with_reducible apply wpSched_pure); exact rfl; exact rfl; (intro w'; go_simp; try with_reducible rfl); (simp only [Act.put, List.setIfInBounds_toArray, List.set_cons_succ, List.set_cons_zero]))
    refine wpSched_end ?_
    go_wp2_with (first | (first | go_big_skip | ((with_reducible apply wpList_loadAll HO); exact rfl; exact rfl; (repeat (with_reducible (first | exact At.head _ | apply At.tail))); infer_instance; exact rfl; exact rfl; (simp only [Act.put, List.setIfInBounds_toArray, List.set_cons_succ, List.set_cons_zero])) | ((with_reducible apply wpList_loadOne HO); exact rfl; exact rfl; (repeat (with_reducible (first | exact At.head _ | apply At.tail))); exact rfl; infer_instance; exact rfl; (simp only [Act.put, List.setIfInBounds_toArray, List.set_cons_succ, List.set_cons_zero]))) | (go_at_call 7; go_must ((with_reducible refine (lined_any _).mono ?_); rintro e w ⟨rfl, hb⟩; replace HO := HO.call hb; clear hb)))
    go_ret
    exact ⟨rfl, HO.grown⟩
end Go.Proofs.YtklommbknfpolaaDoor

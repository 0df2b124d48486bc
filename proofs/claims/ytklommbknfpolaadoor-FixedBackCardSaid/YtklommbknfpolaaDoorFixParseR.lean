/-
  The fields of a line, by walking the document's text; conditions: the widths lie in memory.
-/
import Derived.Test.YtklommbknfpolaaDoorFixParse
namespace Go.Proofs.YtklommbknfpolaaDoor
open Go.RowKit Go.Own

theorem firstOdd_at {l : List UInt8} {j : Nat} (hj : j < l.length) (h0 : (l.take j).any oddB = false) (h1 : oddB l[j] = true) : firstOdd l = (j : Int) := by
  unfold firstOdd
  have : l.findIdx? oddB = some j := by
    rw [List.findIdx?_eq_some_iff_getElem]
    refine ⟨hj, h1, fun i hi => ?_⟩
    rw [List.any_eq_false] at h0
    have := h0 (l[i]'(by omega)) (by
      rw [List.mem_take_iff_getElem]
      exact ⟨i, by omega, rfl⟩)
    simpa using this
  rw [this]
theorem tx_extract (s : ByteArray) (i j : Nat) : tx (s.extract i j) = ((tx s).drop i).take (j - i) := by
  simp [tx, ByteArray.data_extract, Array.toList_extract, List.extract_eq_take_drop]
theorem size_extract (s : ByteArray) (i j : Nat) (hj : j ≤ s.size) (hi : i ≤ j) : (s.extract i j).size = j - i := by
  have := congrArg List.length (tx_extract s i j)
  rw [List.length_take, List.length_drop] at this
  have e1 : (tx (s.extract i j)).length = (s.extract i j).size := rfl
  have e2 : (tx s).length = s.size := rfl
  omega
theorem trimR_last {y : ByteArray} {m : Nat} (h : y.size = m + 1) : trimR (tx y) = if y[m] = 32 then trimR (tx (y.extract 0 m)) else tx y := by
  have hm : m < (tx y).length := by
    have : (tx y).length = y.size := rfl
    omega
  have := trimR_take hm
  rw [List.take_of_length_le (by have : (tx y).length = y.size := rfl; omega)] at this
  rw [this, tx_extract, List.drop_zero, Nat.sub_zero]
  rfl
set_option maxHeartbeats 8000000 in
set_option maxRecDepth 100000 in
theorem parseRef_any {W : World} {v : Value} {ws : List Int} (s : ByteArray) (h : IsInts W v ws) (hs : s.size ≤ 9223372036854775807) :
    Calls Tryd.prog 11 #[v, .string s] W (ParsePost W (parseF ws (tx s))) := by
  have MY := fun w (hb : Below W.heap.size W w) => all_any (W := w) (ws := ws) (h.below hb h.lt)
  have HH := Lib.hid h
  have hsl : (tx s).length = s.size := rfl
  have HP := Lib.hid (fun (r : List (List UInt8) × Int) (hr : parseF ws (tx s) = r) (e : Ending) (w : World) (p : Option Addr) (c : Nat) (he : e = .returned (.tuple #[.slice p r.1.length c, .int .i64 r.2])) (hO : Own W w [row 9 1 (.slice p r.1.length c) (r.1.map strC)]) => (show ParsePost W (parseF ws (tx s)) e w by rw [hr]; exact ⟨p, c, he, hO⟩))
  have HD := Lib.hid (show parseF ws (tx s) = if okW ws = true then (if (s.size : Int) = ws.sum then (if firstOdd (tx s) < 0 then (fieldsN (ws.map Int.toNat) (tx s), 0) else ([], firstOdd (tx s) + 1)) else ([], min (s.size : Int) ws.sum + 1)) else ([], 1) from rfl)
  generalize hPP : ParsePost W (parseF ws (tx s)) = Post at *
  generalize parseF ws (tx s) = R at HP HD
  clear hPP
  obtain ⟨sp, sc, rfl, hmx⟩ := h.slice
  rw [List.length_map] at hmx HH MY ⊢
  clear h
  have HO := Own.start W
  by_cases hok : okW ws = true
  rotate_left
  · have hok' : okW ws = false := by simpa using hok
    have HQ := Lib.hid (HP.out ([], 1) (by rw [HD.out, hok']; rfl))
    rw [(okW_no hok').2.2] at MY
    clear hok HP HD
    go_enter Tryd.func11, Tryd.ntmps11
    go_wp2_with (first | (first | go_big_skip | ((with_reducible apply wpList_loadAll HO); exact rfl; exact rfl; (repeat (with_reducible (first | exact At.head _ | apply At.tail))); infer_instance; exact rfl; exact rfl; (simp only [Act.put, List.setIfInBounds_toArray, List.set_cons_succ, List.set_cons_zero])) | ((with_reducible apply wpList_loadOne HO); exact rfl; exact rfl; (repeat (with_reducible (first | exact At.head _ | apply At.tail))); exact rfl; infer_instance; exact rfl; (simp only [Act.put, List.setIfInBounds_toArray, List.set_cons_succ, List.set_cons_zero]))) | (go_at_call 21; go_must ((with_reducible refine (MY _ HO.grown).mono ?_); rintro e w ⟨rfl, hb⟩; replace HO := HO.call hb; clear hb)))
    exact HQ.out _ _ none 0 rfl (HO.nil 9 1)
  obtain ⟨h100, hall⟩ : ws.length ≤ 100 ∧ ws.all inW = true := by
    rw [okW_eq] at hok
    simpa using hok
  rw [(okW_yes hok).2.2] at MY
  have hsb := sum_bound (Nat.le_refl ws.length) h100 (by rw [List.take_length]; exact hall)
  rw [List.take_length] at hsb
  have hns := nats_of hall
  have hin : ∀ n ∈ ws.map Int.toNat, 1 ≤ n ∧ n ≤ 1000 := fun n hn => by
    obtain ⟨x, hx, rfl⟩ := List.mem_map.1 hn
    have := List.all_eq_true.1 hall x hx
    simp only [inW, Bool.and_eq_true, decide_eq_true_eq] at this
    omega
  have hln : (ws.map Int.toNat).length = ws.length := List.length_map _
  generalize ws.map Int.toNat = ns at *
  rw [hok] at HD
  clear hok hall
  subst hns
  rw [sum_nats] at HD MY hsb
  clear hln
  rw [List.length_map] at hmx HH MY h100 ⊢
  replace hin := Lib.hid hin
  by_cases hsum : (s.size : Int) = (ns.sum : Int)
  rotate_left
  · have hne : ((s.size : Int) == ((ns.sum : Nat) : Int)) = false := by simpa using hsum
    have HQ := Lib.hid (HP.out ([], min (s.size : Int) (ns.sum : Int) + 1) (by rw [HD.out, if_pos rfl, if_neg hsum]))
    clear HP HD hsum
    have hsm0 : ¬ ((ns.sum : Nat) : Int) < 0 := by omega
    generalize ns.sum = sm at *
    go_enter Tryd.func11, Tryd.ntmps11
    go_wp2_with (first | (first | go_big_skip | ((with_reducible apply wpList_loadAll HO); exact rfl; exact rfl; (repeat (with_reducible (first | exact At.head _ | apply At.tail))); infer_instance; exact rfl; exact rfl; (simp only [Act.put, List.setIfInBounds_toArray, List.set_cons_succ, List.set_cons_zero])) | ((with_reducible apply wpList_loadOne HO); exact rfl; exact rfl; (repeat (with_reducible (first | exact At.head _ | apply At.tail))); exact rfl; infer_instance; exact rfl; (simp only [Act.put, List.setIfInBounds_toArray, List.set_cons_succ, List.set_cons_zero]))) | (go_at_call 21; go_must ((with_reducible refine (MY _ HO.grown).mono ?_); rintro e w ⟨rfl, hb⟩; replace HO := HO.call hb; clear hb)))
    exact HQ.out _ _ none 0 rfl (HO.nil 9 1)
  have hsN : s.size = ns.sum := by omega
  have hne : ((s.size : Int) == ((ns.sum : Nat) : Int)) = true := by simpa using hsum
  have hne2 : ((s.size : Int) != ((ns.sum : Nat) : Int)) = false := by simpa using hsum
  have hsm0 : ¬ ((ns.sum : Nat) : Int) < 0 := by omega
  have HQ1 := Lib.hid (fun (h : ¬ firstOdd (tx s) < 0) => HP.out ([], firstOdd (tx s) + 1) (by rw [HD.out, if_pos rfl, if_pos hsum, if_neg h]))
  have HQ := Lib.hid (fun (h : firstOdd (tx s) < 0) => HP.out (fieldsN ns (tx s), 0) (by rw [HD.out, if_pos rfl, if_pos hsum, if_pos h]))
  clear HP HD hsum
  generalize hsm : ns.sum = sm at *
  obtain rfl : sm = s.size := hsN.symm
  replace hsm := Lib.hid hsm
  clear hsN
  go_enter Tryd.func11, Tryd.ntmps11
  go_wp2_with (first | (first | go_big_skip | ((with_reducible apply wpList_loadAll HO); exact rfl; exact rfl; (repeat (with_reducible (first | exact At.head _ | apply At.tail))); infer_instance; exact rfl; exact rfl; (simp only [Act.put, List.setIfInBounds_toArray, List.set_cons_succ, List.set_cons_zero])) | ((with_reducible apply wpList_loadOne HO); exact rfl; exact rfl; (repeat (with_reducible (first | exact At.head _ | apply At.tail))); exact rfl; infer_instance; exact rfl; (simp only [Act.put, List.setIfInBounds_toArray, List.set_cons_succ, List.set_cons_zero]))) | (go_at_call 21; go_must ((with_reducible refine (MY _ HO.grown).mono ?_); rintro e w ⟨rfl, hb⟩; replace HO := HO.call hb; clear hb)))
  clear MY
  go_loopw [7] (fun i wr => ∃ j : Nat, j ≤ s.size ∧ i = .int .i64 (j : Int) ∧ ((tx s).take j).any oddB = false ∧ Own W wr []) (fun i _ => s.size - (intOf i).toNat)
  case atStart => exact ⟨0, by omega, rfl, rfl, HO⟩
  case round =>
    clear HO
    obtain ⟨j, hj, rfl, hno, HO⟩ := hrel
    by_cases hjl : j < s.size
    · have hjI : (j : Int) < (s.size : Int) := by omega
      have hb : (tx s)[j]'hjl = s[j] := rfl
      have HA := Lib.hid (any_take (l := tx s) (j := j) hjl)
      have HF := Lib.hid (fun h => firstOdd_at (l := tx s) (j := j) hjl hno h)
      replace hno := Lib.hid hno
      rw [hb] at HA HF
      by_cases h1 : (s[j].toNat : Int) < 32
      · have HE := Lib.hid (HF.out (by simp [oddB]; omega))
        have HQ2 := Lib.hid (HQ1.out (by rw [HE.out]; omega))
        clear HQ HQ1
        go_wp2_with fail
        refine HQ2.out _ _ none 0 ?_ (HO.nil 9 1)
        rw [HE.out]
        rfl
      by_cases h2 : (126 : Int) < (s[j].toNat : Int)
      · have HE := Lib.hid (HF.out (by simp [oddB]; omega))
        have HQ2 := Lib.hid (HQ1.out (by rw [HE.out]; omega))
        clear HQ HQ1
        go_wp2_with fail
        refine HQ2.out _ _ none 0 ?_ (HO.nil 9 1)
        rw [HE.out]
        rfl
      have HZ := Lib.hid (show oddB s[j] = false by simp [oddB]; omega)
      go_wp2_with fail
      go_roundw
      case rel => exact ⟨j + 1, by omega, by go_num, by rw [HA.out, hno.out, HZ.out]; rfl, HO⟩
      case measure => simp [intOf] <;> omega
    obtain rfl : j = s.size := by omega
    have hno2 : (tx s).any oddB = false := by
      have h2 : (tx s).take s.size = tx s := List.take_of_length_le (Nat.le_refl _)
      rw [h2] at hno
      exact hno
    have HQ2 := Lib.hid (HQ.out (firstOdd_none.2 hno2))
    clear HQ HQ1 hno hno2
    replace HO := HO.nil 9 1
    replace HO : Own W wr [row 9 1 (.slice none 0 0) ((fieldsN (ns.take 0) (tx s)).map strC)] := HO
    go_wp2_with fail
    go_loopw [8, 9, 10] (fun f o i wr => ∃ (j off : Nat) (fp : Option Addr) (fc : Nat), j ≤ ns.length ∧ i = .int .i64 (j : Int) ∧ o = .int .i64 (off : Int) ∧ off = (ns.take j).sum ∧ f = .slice fp j fc ∧ Own W wr [row 9 1 (.slice fp j fc) ((fieldsN (ns.take j) (tx s)).map strC)]) (fun _ _ i _ => ns.length - (intOf i).toNat)
    case atStart => exact ⟨0, 0, none, 0, by omega, rfl, rfl, rfl, rfl, HO⟩
    case round =>
      clear HO
      obtain ⟨j, off, fp, fc, hj, rfl, rfl, hoff, rfl, HO⟩ := hrel
      by_cases hjl : j < ns.length
      · have hjI : (j : Int) < (ns.length : Int) := by omega
        obtain ⟨a, rfl, hst⟩ := oldOne (xs := ns.map (fun n : Nat => (n : Int))) HH.out rfl (by rw [List.length_map]; exact hjl)
        rw [List.getElem_map] at hst
        replace hst := Lib.hid hst
        have hm := hin.out ns[j] (List.getElem_mem hjl)
        have HS := sum_takeN hjl
        have HF := Lib.hid (fieldsN_take hjl (tx s))
        have hle := sum_le ns (j + 1)
        rw [HS, hsm.out, ← hoff] at hle
        rw [← hoff] at HF
        replace HS := Lib.hid HS
        have hfl := fieldsN_len (ns.take j) (tx s)
        rw [List.length_take, Nat.min_eq_left hj] at hfl
        generalize ns[j] = m at *
        replace hoff := Lib.hid hoff
        have hl1 : tx (s.extract off (off + m)) = ((tx s).drop off).take m := by rw [tx_extract, Nat.add_sub_cancel_left]
        have hz1 := size_extract s off (off + m) (by omega) (by omega)
        rw [← hl1] at HF
        clear hl1
        have g1 : IntKind.i64.wrap ((off : Int) + (m : Int)) = ((off + m : Nat) : Int) := by rw [IntKind.wrap_i64]; omega
        have g2 : ((off + m : Nat) : Int) ≤ (s.size : Int) := by omega
        have g3 : (0 : Int) ≤ (off : Int) := by omega
        have g4 : (off : Int) ≤ ((off + m : Nat) : Int) := by omega
        go_upto_region 17 with (first | (first | go_big_skip | ((with_reducible apply wpList_loadAll HO); exact rfl; exact rfl; (repeat (with_reducible (first | exact At.head _ | apply At.tail))); infer_instance; exact rfl; exact rfl; (simp only [Act.put, List.setIfInBounds_toArray, List.set_cons_succ, List.set_cons_zero])) | ((with_reducible apply wpList_loadOne HO); exact rfl; exact rfl; (repeat (with_reducible (first | exact At.head _ | apply At.tail))); exact rfl; infer_instance; exact rfl; (simp only [Act.put, List.setIfInBounds_toArray, List.set_cons_succ, List.set_cons_zero]))) | ((with_reducible apply wpList_loadAt1 HO); exact rfl; exact rfl; exact (fun w' h1 => hst.out w' h1.grown); infer_instance; exact rfl; (simp only [Act.put, List.setIfInBounds_toArray, List.set_cons_succ, List.set_cons_zero])))
        generalize s.extract off (off + m) = x at *
        have hx : x.size ≤ m := by omega
        clear hz1
        go_loopw [11] (fun u wr => ∃ y : ByteArray, u = .string y ∧ trimR (tx y) = trimR (tx x) ∧ y.size ≤ m ∧ Own W wr [row 9 1 (.slice fp j fc) ((fieldsN (ns.take j) (tx s)).map strC)]) (fun u _ => match u with | .string y => y.size | _ => 0)
        case atStart => exact ⟨x, rfl, rfl, hx, HO⟩
        case round =>
          clear HO
          obtain ⟨y, rfl, hty, hys, HO⟩ := hrel
          rcases Nat.eq_zero_or_pos y.size with h0 | h0
          · have hfin : tx y = trimR (tx x) := by
              rw [← hty, List.eq_nil_of_length_eq_zero (show (tx y).length = 0 from h0)]
              rfl
            have HV := Lib.hid (show [Value.string y] = strC (trimR (tx x)) by rw [← hfin]; exact congrArg (fun z => [Value.string z]) (of_tx y))
            clear hty hfin
            go_wp2_with (first | (first | go_big_skip | ((with_reducible apply wpList_loadAll HO); exact rfl; exact rfl; (repeat (with_reducible (first | exact At.head _ | apply At.tail))); infer_instance; exact rfl; exact rfl; (simp only [Act.put, List.setIfInBounds_toArray, List.set_cons_succ, List.set_cons_zero])) | ((with_reducible apply wpList_loadOne HO); exact rfl; exact rfl; (repeat (with_reducible (first | exact At.head _ | apply At.tail))); exact rfl; infer_instance; exact rfl; (simp only [Act.put, List.setIfInBounds_toArray, List.set_cons_succ, List.set_cons_zero]))) | ((with_reducible apply wpList_loadAt1 HO); exact rfl; exact rfl; exact (fun w' h1 => hst.out w' h1.grown); infer_instance; exact rfl; (simp only [Act.put, List.setIfInBounds_toArray, List.set_cons_succ, List.set_cons_zero])) | (first | ((with_reducible apply wpList_lit1 HO); exact rfl; infer_instance; infer_instance; exact rfl; exact rfl; exact (by decide); exact rfl; clear HO; intro bb w HO; (simp only [Act.put, List.setIfInBounds_toArray, List.set_cons_succ, List.set_cons_zero])) | ((with_reducible apply wpList_lit1c HO); exact rfl; infer_instance; infer_instance; (first | (simp [Act.eval]; rfl) | exact rfl); exact rfl; exact rfl; clear HO; intro bb w HO; (simp only [Act.put, List.setIfInBounds_toArray, List.set_cons_succ, List.set_cons_zero]))) | ((with_reducible apply wpList_push1 HO); exact rfl; infer_instance; infer_instance; (first | (simp [Act.eval]; rfl) | exact rfl); exact rfl; intro _; (repeat (with_reducible (first | exact At.head _ | apply At.tail))); exact rfl; exact rfl; (first | omega | (simp; omega)); decide; exact rfl; clear HO; intro v2 w HO hv2; (simp only [Act.put, List.setIfInBounds_toArray, List.set_cons_succ, List.set_cons_zero])))
            obtain ⟨p3, c3, rfl⟩ := (HO.rowForm (t := 9) (k := 1) (v := v2) (A := (fieldsN (ns.take j) (tx s)).map strC ++ [[.string y]]) (.head _)).1
            rw [List.length_append, List.length_map, hfl, HV.out] at HO
            simp only [List.length_append, List.length_map, hfl, List.length_cons, List.length_nil, Nat.zero_add]
            go_roundw
            case rel => exact ⟨j + 1, off + m, p3, c3, by omega, by go_num, by go_num, by rw [HS.out, ← hoff.out], rfl, by rw [HF.out, List.map_append]; exact HO⟩
            case measure => simp [intOf] <;> omega
          obtain ⟨k, hk⟩ : ∃ k, y.size = k + 1 := ⟨y.size - 1, by omega⟩
          have hlt : k < y.size := by omega
          have HT := Lib.hid (trimR_last hk)
          have HR := Lib.hid hty
          clear hty
          have hkI : (k : Int) < (k : Int) + 1 := by omega
          have hk0 : (0 : Int) < (k : Int) + 1 := by omega
          have hk1 : (k : Int) ≤ (k : Int) + 1 := by omega
          by_cases hsp : y[k] = 32
          · have hs2 : ((y[k].toNat : Int) == 32) = true := by rw [hsp]; rfl
            rw [if_pos hsp] at HT
            have hsx := size_extract y 0 k (by omega) (by omega)
            go_wp2_with (first | (first | go_big_skip | ((with_reducible apply wpList_loadAll HO); exact rfl; exact rfl; (repeat (with_reducible (first | exact At.head _ | apply At.tail))); infer_instance; exact rfl; exact rfl; (simp only [Act.put, List.setIfInBounds_toArray, List.set_cons_succ, List.set_cons_zero])) | ((with_reducible apply wpList_loadOne HO); exact rfl; exact rfl; (repeat (with_reducible (first | exact At.head _ | apply At.tail))); exact rfl; infer_instance; exact rfl; (simp only [Act.put, List.setIfInBounds_toArray, List.set_cons_succ, List.set_cons_zero]))))
            exact ⟨⟨y.extract 0 k, rfl, by rw [← HT.out, HR.out], by omega, HO⟩, by show (y.extract 0 k).size < y.size; omega⟩
          · have hs2 : ((y[k].toNat : Int) == 32) = false := by
              simp only [beq_eq_false_iff_ne, ne_eq]
              intro e
              exact hsp (UInt8.toNat_inj.1 (by show y[k].toNat = 32; omega))
            rw [if_neg hsp] at HT
            have HV := Lib.hid (show [Value.string y] = strC (trimR (tx x)) by rw [← HR.out, HT.out]; exact congrArg (fun z => [Value.string z]) (of_tx y))
            go_wp2_with (first | (first | go_big_skip | ((with_reducible apply wpList_loadAll HO); exact rfl; exact rfl; (repeat (with_reducible (first | exact At.head _ | apply At.tail))); infer_instance; exact rfl; exact rfl; (simp only [Act.put, List.setIfInBounds_toArray, List.set_cons_succ, List.set_cons_zero])) | ((with_reducible apply wpList_loadOne HO); exact rfl; exact rfl; (repeat (with_reducible (first | exact At.head _ | apply At.tail))); exact rfl; infer_instance; exact rfl; (simp only [Act.put, List.setIfInBounds_toArray, List.set_cons_succ, List.set_cons_zero]))) | ((with_reducible apply wpList_loadAt1 HO); exact rfl; exact rfl; exact (fun w' h1 => hst.out w' h1.grown); infer_instance; exact rfl; (simp only [Act.put, List.setIfInBounds_toArray, List.set_cons_succ, List.set_cons_zero])) | (first | ((with_reducible apply wpList_lit1 HO); exact rfl; infer_instance; infer_instance; exact rfl; exact rfl; exact (by decide); exact rfl; clear HO; intro bb w HO; (simp only [Act.put, List.setIfInBounds_toArray, List.set_cons_succ, List.set_cons_zero])) | ((with_reducible apply wpList_lit1c HO); exact rfl; infer_instance; infer_instance; (first | (simp [Act.eval]; rfl) | exact rfl); exact rfl; exact rfl; clear HO; intro bb w HO; (simp only [Act.put, List.setIfInBounds_toArray, List.set_cons_succ, List.set_cons_zero]))) | ((with_reducible apply wpList_push1 HO); exact rfl; infer_instance; infer_instance; (first | (simp [Act.eval]; rfl) | exact rfl); exact rfl; intro _; (repeat (with_reducible (first | exact At.head _ | apply At.tail))); exact rfl; exact rfl; (first | omega | (simp; omega)); decide; exact rfl; clear HO; intro v2 w HO hv2; (simp only [Act.put, List.setIfInBounds_toArray, List.set_cons_succ, List.set_cons_zero])))
            obtain ⟨p3, c3, rfl⟩ := (HO.rowForm (t := 9) (k := 1) (v := v2) (A := (fieldsN (ns.take j) (tx s)).map strC ++ [[.string y]]) (.head _)).1
            rw [List.length_append, List.length_map, hfl, HV.out] at HO
            simp only [List.length_append, List.length_map, hfl, List.length_cons, List.length_nil, Nat.zero_add]
            go_roundw
            case rel => exact ⟨j + 1, off + m, p3, c3, by omega, by go_num, by go_num, by rw [HS.out, ← hoff.out], rfl, by rw [HF.out, List.map_append]; exact HO⟩
            case measure => simp [intOf] <;> omega
      obtain rfl : j = ns.length := by omega
      rw [List.take_length] at HO
      have hfl := Lib.hid (fieldsN_len ns (tx s))
      go_wp2_with fail
      refine HQ2.out _ _ fp fc ?_ ?_
      · rw [hfl.out]
        rfl
      · rw [hfl.out]
        exact HO
end Go.Proofs.YtklommbknfpolaaDoor

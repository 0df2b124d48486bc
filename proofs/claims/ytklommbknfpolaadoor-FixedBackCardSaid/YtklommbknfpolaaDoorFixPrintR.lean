/-
  The line of fields, by walking the document's text; conditions: widths and fields lie in memory.
-/
import Derived.Test.YtklommbknfpolaaDoorFixPrint
namespace Go.Proofs.YtklommbknfpolaaDoor
open Go.RowKit Go.Own

theorem push_tx (a : ByteArray) (k : Nat) : a ++ spaces k ++ ⟨#[32]⟩ = a ++ spaces (k + 1) := by
  apply ByteArray.ext
  apply Array.ext'
  simp [spaces, ByteArray.data_append, List.replicate_succ']
theorem cat_none (a : ByteArray) : a ++ spaces 0 = a := by
  apply ByteArray.ext
  simp [spaces, ByteArray.data_append]
theorem tx_inj {a b : ByteArray} (h : tx a = tx b) : a = b := by
  apply ByteArray.ext
  exact Array.ext' h
theorem of_tx (a : ByteArray) : a = ⟨(tx a).toArray⟩ := by
  apply ByteArray.ext
  simp [tx]
set_option maxHeartbeats 8000000 in
set_option maxRecDepth 100000 in
theorem printRef_any {W : World} {v vs : Value} {ws : List Int} {ss : List ByteArray} (h : IsInts W v ws) (hs : IsStrs W vs ss) (hsz : ∀ s ∈ ss, s.size ≤ 9223372036854775807) :
    Calls Tryd.prog 9 #[v, vs] W fun e w' => e = .returned (.string ⟨(printF ws (ss.map tx)).toArray⟩) ∧ Below W.heap.size W w' := by
  have MY := fun w (hb : Below W.heap.size W w) => all_any (W := w) (ws := ws) (h.below hb h.lt)
  have HH := Lib.hid h
  have HT := Lib.hid hs
  have HZ := Lib.hid hsz
  have HP := Lib.hid (printF_eq ws ss)
  generalize hP : printF ws (ss.map tx) = R at HP
  obtain ⟨sp, sc, rfl, hmx⟩ := h.slice
  obtain ⟨tp, tc, rfl, hmt⟩ := hs.slice
  rw [List.length_map] at hmx hmt HH HT MY ⊢
  rw [List.length_map]
  clear h hs hsz
  have HO := Own.start W
  by_cases hok : okW ws = true
  rotate_left
  · have hok' : okW ws = false := by simpa using hok
    have HQ := Lib.hid (show R = [] by rw [HP.out, hok']; rfl)
    rw [(okW_no hok').2.2] at MY
    clear hok HP hP
    go_enter Tryd.func9, Tryd.ntmps9
    go_wp2_with (first | (first | go_big_skip | ((with_reducible apply wpList_loadAll HO); exact rfl; exact rfl; (repeat (with_reducible (first | exact At.head _ | apply At.tail))); infer_instance; exact rfl; exact rfl; (simp only [Act.put, List.setIfInBounds_toArray, List.set_cons_succ, List.set_cons_zero])) | ((with_reducible apply wpList_loadOne HO); exact rfl; exact rfl; (repeat (with_reducible (first | exact At.head _ | apply At.tail))); exact rfl; infer_instance; exact rfl; (simp only [Act.put, List.setIfInBounds_toArray, List.set_cons_succ, List.set_cons_zero]))) | (go_at_call 21; go_must ((with_reducible refine (MY _ HO.grown).mono ?_); rintro e w ⟨rfl, hb⟩; replace HO := HO.call hb; clear hb)))
    go_ret
    exact ⟨by rw [HQ.out]; rfl, HO.grown⟩
  obtain ⟨h100, hall⟩ : ws.length ≤ 100 ∧ ws.all inW = true := by
    rw [okW_eq] at hok
    simpa using hok
  have hsm : 0 ≤ sumRef ws := by
    rw [(okW_yes hok).2.2]
    exact (okW_sum hall).1
  have hsm' : ¬ sumRef ws < 0 := by omega
  generalize sumRef ws = sm at *
  by_cases hlen : ws.length = ss.length
  rotate_left
  · have HQ := Lib.hid (show R = [] by rw [HP.out, hok]; simp [hlen])
    have hln : ((ws.length : Int) == (ss.length : Int)) = false := by simp; omega
    have hln2 : ((ws.length : Int) != (ss.length : Int)) = true := by simp; omega
    clear HP hP
    go_enter Tryd.func9, Tryd.ntmps9
    go_wp2_with (first | (first | go_big_skip | ((with_reducible apply wpList_loadAll HO); exact rfl; exact rfl; (repeat (with_reducible (first | exact At.head _ | apply At.tail))); infer_instance; exact rfl; exact rfl; (simp only [Act.put, List.setIfInBounds_toArray, List.set_cons_succ, List.set_cons_zero])) | ((with_reducible apply wpList_loadOne HO); exact rfl; exact rfl; (repeat (with_reducible (first | exact At.head _ | apply At.tail))); exact rfl; infer_instance; exact rfl; (simp only [Act.put, List.setIfInBounds_toArray, List.set_cons_succ, List.set_cons_zero]))) | (go_at_call 21; go_must ((with_reducible refine (MY _ HO.grown).mono ?_); rintro e w ⟨rfl, hb⟩; replace HO := HO.call hb; clear hb)))
    go_ret
    exact ⟨by rw [HQ.out]; rfl, HO.grown⟩
  have HQ := Lib.hid (fun (h : fitsAll ws ss = false) => (show R = [] by rw [HP.out, hok, h]; simp))
  have HY := Lib.hid (fun (h : fitsAll ws ss = true) => (show R = lineF ws (ss.map tx) by rw [HP.out, hok, h]; simp [hlen]))
  clear hok HP hP
  rw [hlen] at HH MY ⊢
  have h100' : ss.length ≤ 100 := by omega
  have hall' := Lib.hid (List.all_eq_true.1 hall)
  replace hall := Lib.hid hall
  have hle := Lib.hid hlen
  clear hlen h100
  go_enter Tryd.func9, Tryd.ntmps9
  go_wp2_with (first | (first | go_big_skip | ((with_reducible apply wpList_loadAll HO); exact rfl; exact rfl; (repeat (with_reducible (first | exact At.head _ | apply At.tail))); infer_instance; exact rfl; exact rfl; (simp only [Act.put, List.setIfInBounds_toArray, List.set_cons_succ, List.set_cons_zero])) | ((with_reducible apply wpList_loadOne HO); exact rfl; exact rfl; (repeat (with_reducible (first | exact At.head _ | apply At.tail))); exact rfl; infer_instance; exact rfl; (simp only [Act.put, List.setIfInBounds_toArray, List.set_cons_succ, List.set_cons_zero]))) | (go_at_call 21; go_must ((with_reducible refine (MY _ HO.grown).mono ?_); rintro e w ⟨rfl, hb⟩; replace HO := HO.call hb; clear hb)))
  clear MY
  go_loopw [5, 6] (fun o i wr => ∃ (j : Nat) (z : ByteArray), j ≤ ss.length ∧ i = .int .i64 (j : Int) ∧ o = .string z ∧ fitsAll (ws.take j) (ss.take j) = true ∧ tx z = lineF (ws.take j) ((ss.take j).map tx) ∧ Own W wr []) (fun _ i _ => ss.length - (intOf i).toNat)
  case atStart => exact ⟨0, ⟨#[]⟩, by omega, rfl, rfl, rfl, rfl, HO⟩
  case round =>
    clear HO
    obtain ⟨j, z, hj, rfl, rfl, hft, hz, HO⟩ := hrel
    by_cases hjl : j < ss.length
    · have hjw : j < ws.length := by rw [hle.out]; exact hjl
      have hjI : (j : Int) < (ss.length : Int) := by omega
      obtain ⟨a, rfl, hst⟩ := oldOne HH.out rfl hjw
      obtain ⟨a2, rfl, hst2⟩ := oldOne HT.out rfl hjl
      replace hst := Lib.hid hst
      replace hst2 := Lib.hid hst2
      have hin := hall'.out _ (List.getElem_mem hjw)
      have hss := HZ.out _ (List.getElem_mem hjl)
      have HN := Lib.hid (fun (h : fitsF (tx ss[j]) ws[j] = false) => HQ.out (fitsAll_not hjw hjl h))
      have HF := Lib.hid (fitsAll_take hjw hjl)
      have HL := Lib.hid (line_take hjw hjl)
      have hln := line_len hft (by rw [List.all_eq_true]; exact fun x hx => hall'.out x (List.mem_of_mem_take hx))
      rw [List.length_take, ← hz] at hln
      rw [← hz] at HL
      replace hft := Lib.hid hft
      rw [hft.out] at HF
      generalize ws[j] = n at *
      generalize ss[j] = s at *
      simp only [inW, Bool.and_eq_true, decide_eq_true_eq] at hin
      have hzl : (tx z).length = z.size := rfl
      have hsl : (tx s).length = s.size := rfl
      have FT := fun w => fits_any (W := w) s n (by omega)
      rw [hzl] at hln
      replace hz := Lib.hid hz
      have HC1 := Lib.hid (hst.out W (Below.refl _ _))
      have HC2 := Lib.hid (hst2.out W (Below.refl _ _))
      have HB1 := Lib.hid (World.block_lt_of_cell? W _ HC1.out)
      have HB2 := Lib.hid (World.block_lt_of_cell? W _ HC2.out)
      cases hf : fitsF (tx s) n
      · rw [show s.data.toList = tx s from rfl, hf] at FT
        have HQ2 := Lib.hid (HN.out hf)
        clear hf hzl hsl
        go_upto_region 7 with fail
        refine region_own HO (by kernel_rfl) (by kernel_rfl) ?_
        clear HO
        intro F HF
        repeat (first | (first | ((with_reducible apply wpQuiet_loadOld1 HF); exact rfl; exact rfl; exact HB1.out; exact HC1.out; infer_instance; exact rfl; (simp only [Act.put, List.setIfInBounds_toArray, List.set_cons_succ, List.set_cons_zero])) | ((with_reducible apply wpQuiet_loadOld1 HF); exact rfl; exact rfl; exact HB2.out; exact HC2.out; infer_instance; exact rfl; (simp only [Act.put, List.setIfInBounds_toArray, List.set_cons_succ, List.set_cons_zero])) | (first | go_big_quiet_skip | ((with_reducible apply wpQuiet_loadAll HF); exact rfl; exact rfl; (repeat (with_reducible (first | exact At.head _ | apply At.tail))); infer_instance; exact rfl; exact rfl; (simp only [Act.put, List.setIfInBounds_toArray, List.set_cons_succ, List.set_cons_zero])) | ((with_reducible apply wpQuiet_loadOne HF); exact rfl; exact rfl; (repeat (with_reducible (first | exact At.head _ | apply At.tail))); exact rfl; infer_instance; exact rfl; (simp only [Act.put, List.setIfInBounds_toArray, List.set_cons_succ, List.set_cons_zero])) | ((with_reducible apply wpQuiet_loadPart HF); exact rfl; exact rfl; (repeat (with_reducible (first | exact At.head _ | apply At.tail))); infer_instance; exact (Nat.le_of_ble_eq_true rfl); (simp only [List.drop_succ_cons, List.drop_zero, List.take_succ_cons, List.take_zero]; rfl); exact rfl; (simp only [Act.put, List.setIfInBounds_toArray, List.set_cons_succ, List.set_cons_zero])))) | go_big_quiet_step ((go_at_call 22; (with_reducible exact calls_fam HF (FT _)))))
        refine wpQuiet_nil ?_
        intro x
        have HO := HF.own x
        clear HF
        generalize F x = w at *
        clear x F
        go_wp2_with fail
        go_ret
        exact ⟨by rw [HQ2.out]; rfl, HO.grown⟩
      rw [show s.data.toList = tx s from rfl, hf] at FT
      have hsn : (s.size : Int) ≤ n := by
        simp only [fitsF, Bool.and_eq_true, decide_eq_true_eq, hsl] at hf
        exact hf.2.1
      replace hf := Lib.hid hf
      obtain ⟨c, rfl⟩ : ∃ c : Nat, n = (s.size : Int) + (c : Int) := ⟨(n - s.size).toNat, by omega⟩
      have HL2 := Lib.hid (show tx (z ++ s ++ spaces c) = tx z ++ (tx s ++ List.replicate (((s.size : Int) + (c : Int)) - ((tx s).length : Int)).toNat 32) by
        rw [cat_tx, cat_tx, spaces_tx, hsl, show ((s.size : Int) + (c : Int)) - (s.size : Int) = (c : Int) by omega, List.append_assoc]
        rfl)
      have hcat : ¬ (9223372036854775807 < z.size + s.size) := by omega
      clear hzl hsl
      go_upto_region 7 with fail
      refine region_own HO (by kernel_rfl) (by kernel_rfl) ?_
      clear HO
      intro F HF
      repeat (first | (first | ((with_reducible apply wpQuiet_loadOld1 HF); exact rfl; exact rfl; exact HB1.out; exact HC1.out; infer_instance; exact rfl; (simp only [Act.put, List.setIfInBounds_toArray, List.set_cons_succ, List.set_cons_zero])) | ((with_reducible apply wpQuiet_loadOld1 HF); exact rfl; exact rfl; exact HB2.out; exact HC2.out; infer_instance; exact rfl; (simp only [Act.put, List.setIfInBounds_toArray, List.set_cons_succ, List.set_cons_zero])) | (first | go_big_quiet_skip | ((with_reducible apply wpQuiet_loadAll HF); exact rfl; exact rfl; (repeat (with_reducible (first | exact At.head _ | apply At.tail))); infer_instance; exact rfl; exact rfl; (simp only [Act.put, List.setIfInBounds_toArray, List.set_cons_succ, List.set_cons_zero])) | ((with_reducible apply wpQuiet_loadOne HF); exact rfl; exact rfl; (repeat (with_reducible (first | exact At.head _ | apply At.tail))); exact rfl; infer_instance; exact rfl; (simp only [Act.put, List.setIfInBounds_toArray, List.set_cons_succ, List.set_cons_zero])) | ((with_reducible apply wpQuiet_loadPart HF); exact rfl; exact rfl; (repeat (with_reducible (first | exact At.head _ | apply At.tail))); infer_instance; exact (Nat.le_of_ble_eq_true rfl); (simp only [List.drop_succ_cons, List.drop_zero, List.take_succ_cons, List.take_zero]; rfl); exact rfl; (simp only [Act.put, List.setIfInBounds_toArray, List.set_cons_succ, List.set_cons_zero])))) | go_big_quiet_step ((go_at_call 22; (with_reducible exact calls_fam HF (FT _)))))
      refine wpQuiet_nil ?_
      intro x
      have HO := HF.own x
      clear HF
      generalize F x = w at *
      clear x F
      go_wp2_with (first | (first | go_big_skip | ((with_reducible apply wpList_loadAll HO); exact rfl; exact rfl; (repeat (with_reducible (first | exact At.head _ | apply At.tail))); infer_instance; exact rfl; exact rfl; (simp only [Act.put, List.setIfInBounds_toArray, List.set_cons_succ, List.set_cons_zero])) | ((with_reducible apply wpList_loadOne HO); exact rfl; exact rfl; (repeat (with_reducible (first | exact At.head _ | apply At.tail))); exact rfl; infer_instance; exact rfl; (simp only [Act.put, List.setIfInBounds_toArray, List.set_cons_succ, List.set_cons_zero]))) | ((with_reducible apply wpList_loadAt1 HO); exact rfl; exact rfl; exact (fun w' h1 => hst.out w' h1.grown); infer_instance; exact rfl; (simp only [Act.put, List.setIfInBounds_toArray, List.set_cons_succ, List.set_cons_zero])) | ((with_reducible apply wpList_loadAt1 HO); exact rfl; exact rfl; exact (fun w' h1 => hst2.out w' h1.grown); infer_instance; exact rfl; (simp only [Act.put, List.setIfInBounds_toArray, List.set_cons_succ, List.set_cons_zero])))
      go_loopw [5, 7] (fun o i wr => ∃ k : Nat, k ≤ c ∧ i = .int .i64 ((s.size : Int) + (k : Int)) ∧ o = .string (z ++ s ++ spaces k) ∧ Own W wr []) (fun _ i _ => (s.size + c) - (intOf i).toNat)
      case atStart => exact ⟨0, by omega, by simp, by rw [cat_none], HO⟩
      case round =>
        clear HO
        obtain ⟨k, hk, rfl, rfl, HO⟩ := hrel
        by_cases hkc : k < c
        · have hkI : (s.size : Int) + (k : Int) < (s.size : Int) + (c : Int) := by omega
          have hsz2 : (z ++ s ++ spaces k).size = z.size + s.size + k := by rw [ByteArray.size_append, ByteArray.size_append, spaces_size]
          have HE := Lib.hid (show (z ++ s ++ spaces k) ++ ⟨#[32]⟩ = z ++ s ++ spaces (k + 1) from push_tx (z ++ s) k)
          generalize z ++ s ++ spaces k = y at *
          have hy1 : ¬ (9223372036854775807 < y.size + (⟨#[32]⟩ : ByteArray).size) := by
            show ¬ (9223372036854775807 < y.size + 1)
            omega
          have hy2 : ¬ (9223372036854775807 < y.size + 1) := by omega
          have hw1 : IntKind.i64.wrap ((s.size : Int) + (k : Int) + 1) = (s.size : Int) + ((k + 1 : Nat) : Int) := by rw [IntKind.wrap_i64]; omega
          clear hsz2
          go_wp2_with (first | (first | go_big_skip | ((with_reducible apply wpList_loadAll HO); exact rfl; exact rfl; (repeat (with_reducible (first | exact At.head _ | apply At.tail))); infer_instance; exact rfl; exact rfl; (simp only [Act.put, List.setIfInBounds_toArray, List.set_cons_succ, List.set_cons_zero])) | ((with_reducible apply wpList_loadOne HO); exact rfl; exact rfl; (repeat (with_reducible (first | exact At.head _ | apply At.tail))); exact rfl; infer_instance; exact rfl; (simp only [Act.put, List.setIfInBounds_toArray, List.set_cons_succ, List.set_cons_zero]))) | ((with_reducible apply wpList_loadAt1 HO); exact rfl; exact rfl; exact (fun w' h1 => hst.out w' h1.grown); infer_instance; exact rfl; (simp only [Act.put, List.setIfInBounds_toArray, List.set_cons_succ, List.set_cons_zero])) | ((with_reducible apply wpList_loadAt1 HO); exact rfl; exact rfl; exact (fun w' h1 => hst2.out w' h1.grown); infer_instance; exact rfl; (simp only [Act.put, List.setIfInBounds_toArray, List.set_cons_succ, List.set_cons_zero])))
          go_roundw
          case rel => exact ⟨k + 1, by omega, by first | go_num | rfl, by rw [← HE.out], HO⟩
          case measure => simp [intOf] <;> omega
        obtain rfl : k = c := by omega
        have hkI : ¬ (s.size : Int) + (k : Int) < (s.size : Int) + (k : Int) := by omega
        go_wp2_with (first | (first | go_big_skip | ((with_reducible apply wpList_loadAll HO); exact rfl; exact rfl; (repeat (with_reducible (first | exact At.head _ | apply At.tail))); infer_instance; exact rfl; exact rfl; (simp only [Act.put, List.setIfInBounds_toArray, List.set_cons_succ, List.set_cons_zero])) | ((with_reducible apply wpList_loadOne HO); exact rfl; exact rfl; (repeat (with_reducible (first | exact At.head _ | apply At.tail))); exact rfl; infer_instance; exact rfl; (simp only [Act.put, List.setIfInBounds_toArray, List.set_cons_succ, List.set_cons_zero]))) | ((with_reducible apply wpList_loadAt1 HO); exact rfl; exact rfl; exact (fun w' h1 => hst.out w' h1.grown); infer_instance; exact rfl; (simp only [Act.put, List.setIfInBounds_toArray, List.set_cons_succ, List.set_cons_zero])) | ((with_reducible apply wpList_loadAt1 HO); exact rfl; exact rfl; exact (fun w' h1 => hst2.out w' h1.grown); infer_instance; exact rfl; (simp only [Act.put, List.setIfInBounds_toArray, List.set_cons_succ, List.set_cons_zero])))
        go_roundw
        case rel => exact ⟨j + 1, z ++ s ++ spaces k, by omega, by go_num, rfl, by rw [HF.out, hf.out]; rfl, by rw [HL.out, HL2.out], HO⟩
        case measure => simp [intOf] <;> omega
    obtain rfl : j = ss.length := by omega
    rw [List.take_length, show ws.take ss.length = ws by rw [← hle.out]; exact List.take_length] at hft hz
    have HQ2 := Lib.hid (show R = tx z by rw [HY.out hft, hz])
    clear hft hz
    go_wp2_with fail
    go_ret
    exact ⟨by rw [HQ2.out]; exact congrArg (fun x => Ending.returned (.string x)) (of_tx z), HO.grown⟩
end Go.Proofs.YtklommbknfpolaaDoor

/-
  The line of fields, by walking the program's text; conditions: widths and fields lie in memory.
-/
import Derived.Test.YtklommbknfpolaaDoorFixW
namespace Go.Proofs.YtklommbknfpolaaDoor
open Go.RowKit Go.Own

theorem own0 {W w : World} (h : Below W.heap.size W w) : Own W w [] := ⟨h, by simp, by simp, by simp, by simp, .nil⟩
theorem builderAt_kept {T e : TypeId} {B b : Nat} {p : Value} {bs : List Value} {w w' : World} (h : Lib.BuilderAt T e B b p bs w) (hb : Below w.heap.size w w') : Lib.BuilderAt T e B b p bs w' := by
  have hlt := h.lt
  obtain ⟨hB, v, h1, h2, h3⟩ := h
  exact ⟨hB, v, by rw [hb.block b hlt]; exact h1, ownsL_below h2 hb (Nat.le_refl _), h3⟩
theorem builder_kept {T e : TypeId} {B b : Nat} {bs : List Value} {w w' : World} (h : Lib.IsBuilder T e B b bs w) (hb : Below w.heap.size w w') : Lib.IsBuilder T e B b bs w' := h.imp (fun h => builderAt_kept h hb) (fun h => builderAt_kept h hb)
theorem builder_new {W w : World} {b : Nat} (h : Own W w [box b (.cells #[.pointer none, .slice none 0 0] tB)]) : Lib.IsBuilder tB tU W.heap.size b (Lib.byteCells []) w :=
  .inl ⟨h.new _ List.mem_cons_self _ (by simp [box]), _, h.has _ List.mem_cons_self, ⟨rfl, .inl ⟨rfl, rfl⟩⟩, by simp [Value.ownBlock]⟩
def spaces (c : Nat) : ByteArray := ⟨(List.replicate c 32).toArray⟩
theorem spaces_size (c : Nat) : (spaces c).size = c := by simp [spaces, ByteArray.size]
theorem spaces_tx (c : Nat) : tx (spaces c) = List.replicate c 32 := rfl
theorem repeat_any {W : World} (c : Nat) (hc : c ≤ 1000) : Calls Tryd.prog 19 #[.string ⟨#[32]⟩, .int .i64 (c : Int)] W fun e w' => e = .returned (.string (spaces c)) ∧ Below W.heap.size W w' := by
  have h := Tryd.strings_Repeat ⟨#[32]⟩ c W (by omega) (by show 1 * c ≤ _; omega)
  have e : ∀ c, Lib.repeatL [32] c = List.replicate c 32 := fun c => by
    induction c with
    | zero => rfl
    | succ c ih => rw [Lib.repeatL, ih, List.replicate_succ]; rfl
  rw [show (⟨#[32]⟩ : ByteArray).data.toList = [32] from rfl, e] at h
  exact h
theorem cat_tx (a b : ByteArray) : tx (a ++ b) = tx a ++ tx b := by simp [tx, ByteArray.data_append]
theorem cells_cat (l : List UInt8) (s : ByteArray) : Lib.byteCells l ++ Lib.strCells s = Lib.byteCells (l ++ tx s) := by simp [Lib.byteCells, Lib.strCells, tx]
theorem zip_take {α β : Type} {xs : List α} {ys : List β} {j : Nat} (h1 : j < xs.length) (h2 : j < ys.length) : (xs.take (j + 1)).zip (ys.take (j + 1)) = (xs.take j).zip (ys.take j) ++ [(xs[j], ys[j])] := by
  rw [List.take_succ_eq_append_getElem h1, List.take_succ_eq_append_getElem h2, List.zip_append (by simp; omega)]
  rfl
def fitsAll (ws : List Int) (ss : List ByteArray) : Bool := (ws.zip ss).all fun x => fitsF (tx x.2) x.1
theorem fitsAll_take {ws : List Int} {ss : List ByteArray} {j : Nat} (h1 : j < ws.length) (h2 : j < ss.length) : fitsAll (ws.take (j + 1)) (ss.take (j + 1)) = (fitsAll (ws.take j) (ss.take j) && fitsF (tx ss[j]) ws[j]) := by
  unfold fitsAll
  rw [zip_take h1 h2, List.all_append]
  simp
theorem fitsAll_not {ws : List Int} {ss : List ByteArray} {j : Nat} (h1 : j < ws.length) (h2 : j < ss.length) (h : fitsF (tx ss[j]) ws[j] = false) : fitsAll ws ss = false := by
  unfold fitsAll
  rw [List.all_eq_false]
  refine ⟨(ws[j], ss[j]), ?_, by simp [h]⟩
  have : (ws.zip ss)[j]'(by rw [List.length_zip]; omega) = (ws[j], ss[j]) := by simp
  rw [← this]
  exact List.getElem_mem _
theorem printF_eq (ws : List Int) (ss : List ByteArray) : printF ws (ss.map tx) = if (okW ws && (decide (ws.length = ss.length) && fitsAll ws ss)) = true then lineF ws (ss.map tx) else [] := by
  unfold printF fitsAll
  rw [List.length_map, List.zip_map_right, List.all_map, Bool.and_assoc]
  rfl
theorem line_take {ws : List Int} {ss : List ByteArray} {j : Nat} (h1 : j < ws.length) (h2 : j < ss.length) : lineF (ws.take (j + 1)) ((ss.take (j + 1)).map tx) = lineF (ws.take j) ((ss.take j).map tx) ++ (tx ss[j] ++ List.replicate (ws[j] - ((tx ss[j]).length : Int)).toNat 32) := by
  rw [List.take_succ_eq_append_getElem h1, List.take_succ_eq_append_getElem h2, List.map_append, List.map_cons, List.map_nil, lineF_snoc _ _ _ _ (by simp; omega)]
theorem line_len : ∀ {ws : List Int} {ss : List ByteArray}, fitsAll ws ss = true → ws.all inW = true → (lineF ws (ss.map tx)).length ≤ 1000 * ws.length
  | [], _, _, _ => by simp [lineF]
  | w :: ws, [], _, _ => by simp [lineF]
  | w :: ws, s :: ss, h, hw => by
    have h' : fitsF (tx s) w = true ∧ fitsAll ws ss = true := by simpa [fitsAll] using h
    have hw' : inW w = true ∧ ws.all inW = true := by simpa using hw
    have := line_len h'.2 hw'.2
    have h3 := h'.1
    have h4 := hw'.1
    simp only [fitsF, inW, Bool.and_eq_true, decide_eq_true_eq] at h3 h4
    simp only [List.map_cons, lineF, List.length_append, List.length_replicate, List.length_cons]
    omega
set_option maxHeartbeats 8000000 in
set_option maxRecDepth 100000 in
theorem print_any {W : World} {v vs : Value} {ws : List Int} {ss : List ByteArray} (h : IsInts W v ws) (hs : IsStrs W vs ss) (hsz : ∀ s ∈ ss, s.size ≤ 9223372036854775807) :
    Calls Tryd.prog 8 #[v, vs] W fun e w' => e = .returned (.string ⟨(printF ws (ss.map tx)).toArray⟩) ∧ Below W.heap.size W w' := by
  have MY := fun w (hb : Below W.heap.size W w) => may_any (W := w) (ws := ws) (h.below hb h.lt)
  have HH := Lib.hid h
  have HT := Lib.hid hs
  have HZ := Lib.hid hsz
  have HP := Lib.hid (printF_eq ws ss)
  generalize hP : printF ws (ss.map tx) = R at HP
  obtain ⟨sp, sc, rfl, hmx⟩ := h.slice
  obtain ⟨tp, tc, rfl, hmt⟩ := hs.slice
  rw [List.length_map] at hmx hmt HH HT MY ⊢
  rw [List.length_map]
  clear h hs hsz
  have HO := Own.start W
  by_cases hok : okW ws = true
  rotate_left
  · have hok' : okW ws = false := by simpa using hok
    have HQ := Lib.hid (show R = [] by rw [HP.out, hok']; rfl)
    rw [hok'] at MY
    clear hok HP hP
    generalize sumOk ws = sm at *
    go_enter Tryd.func8, Tryd.ntmps8
    go_wp2_with (first | (first | go_big_skip | ((with_reducible apply wpList_loadAll HO); exact rfl; exact rfl; (repeat (with_reducible (first | exact At.head _ | apply At.tail))); infer_instance; exact rfl; exact rfl; (simp only [Act.put, List.setIfInBounds_toArray, List.set_cons_succ, List.set_cons_zero])) | ((with_reducible apply wpList_loadOne HO); exact rfl; exact rfl; (repeat (with_reducible (first | exact At.head _ | apply At.tail))); exact rfl; infer_instance; exact rfl; (simp only [Act.put, List.setIfInBounds_toArray, List.set_cons_succ, List.set_cons_zero]))) | (go_at_call 14; go_must ((with_reducible refine (MY _ HO.grown).mono ?_); rintro e w ⟨rfl, hb⟩; replace HO := HO.call hb; clear hb)))
    go_ret
    exact ⟨by rw [HQ.out]; rfl, HO.grown⟩
  rw [hok] at MY
  by_cases hlen : ws.length = ss.length
  rotate_left
  · have HQ := Lib.hid (show R = [] by rw [HP.out, hok]; simp [hlen])
    have hln : ((ws.length : Int) == (ss.length : Int)) = false := by simp; omega
    clear HP hP
    generalize sumOk ws = sm at *
    go_enter Tryd.func8, Tryd.ntmps8
    go_wp2_with (first | (first | go_big_skip | ((with_reducible apply wpList_loadAll HO); exact rfl; exact rfl; (repeat (with_reducible (first | exact At.head _ | apply At.tail))); infer_instance; exact rfl; exact rfl; (simp only [Act.put, List.setIfInBounds_toArray, List.set_cons_succ, List.set_cons_zero])) | ((with_reducible apply wpList_loadOne HO); exact rfl; exact rfl; (repeat (with_reducible (first | exact At.head _ | apply At.tail))); exact rfl; infer_instance; exact rfl; (simp only [Act.put, List.setIfInBounds_toArray, List.set_cons_succ, List.set_cons_zero]))) | (go_at_call 14; go_must ((with_reducible refine (MY _ HO.grown).mono ?_); rintro e w ⟨rfl, hb⟩; replace HO := HO.call hb; clear hb)))
    go_ret
    exact ⟨by rw [HQ.out]; rfl, HO.grown⟩
  obtain ⟨h100, hall⟩ : ws.length ≤ 100 ∧ ws.all inW = true := by
    rw [okW_eq] at hok
    simpa using hok
  have HQ := Lib.hid (fun (h : fitsAll ws ss = false) => (show R = [] by rw [HP.out, hok, h]; simp))
  have HY := Lib.hid (fun (h : fitsAll ws ss = true) => (show R = lineF ws (ss.map tx) by rw [HP.out, hok, h]; simp [hlen]))
  clear hok HP hP
  rw [hlen] at HH MY ⊢
  have h100' : ss.length ≤ 100 := by omega
  have hall' := Lib.hid (List.all_eq_true.1 hall)
  replace hall := Lib.hid hall
  have hle := Lib.hid hlen
  clear hlen h100
  generalize sumOk ws = sm at *
  go_enter Tryd.func8, Tryd.ntmps8
  go_wp2_with (first | (first | go_big_skip | ((with_reducible apply wpList_loadAll HO); exact rfl; exact rfl; (repeat (with_reducible (first | exact At.head _ | apply At.tail))); infer_instance; exact rfl; exact rfl; (simp only [Act.put, List.setIfInBounds_toArray, List.set_cons_succ, List.set_cons_zero])) | ((with_reducible apply wpList_loadOne HO); exact rfl; exact rfl; (repeat (with_reducible (first | exact At.head _ | apply At.tail))); exact rfl; infer_instance; exact rfl; (simp only [Act.put, List.setIfInBounds_toArray, List.set_cons_succ, List.set_cons_zero]))) | (go_at_call 14; go_must ((with_reducible refine (MY _ HO.grown).mono ?_); rintro e w ⟨rfl, hb⟩; replace HO := HO.call hb; clear hb)) | ((with_reducible apply wpList_allocAgg _ HO rfl); exact rfl; infer_instance; exact rfl; clear HO; intro b7 w HO; (simp only [Act.put, List.setIfInBounds_toArray, List.set_cons_succ, List.set_cons_zero])))
  have HB := builder_new HO
  replace HO := own0 HO.grown
  clear MY
  go_loopw [26] (fun i wr => ∃ j : Nat, j ≤ ss.length ∧ i = .int .i64 (j : Int) ∧ fitsAll (ws.take j) (ss.take j) = true ∧ Lib.IsBuilder tB tU W.heap.size b7 (Lib.byteCells (lineF (ws.take j) ((ss.take j).map tx))) wr ∧ Own W wr []) (fun i _ => ss.length - (intOf i).toNat)
  case atStart => exact ⟨0, by omega, rfl, rfl, HB, HO⟩
  case round =>
    clear HO HB
    obtain ⟨j, hj, rfl, hft, HB, HO⟩ := hrel
    by_cases hjl : j < ss.length
    · have hjw : j < ws.length := by rw [hle.out]; exact hjl
      have hjI : (j : Int) < (ss.length : Int) := by omega
      obtain ⟨a, rfl, hst⟩ := oldOne HH.out rfl hjw
      obtain ⟨a2, rfl, hst2⟩ := oldOne HT.out rfl hjl
      replace hst := Lib.hid hst
      replace hst2 := Lib.hid hst2
      have hin := hall'.out _ (List.getElem_mem hjw)
      have hss := HZ.out _ (List.getElem_mem hjl)
      have HN := Lib.hid (fun (h : fitsF (tx ss[j]) ws[j] = false) => HQ.out (fitsAll_not hjw hjl h))
      have HF := Lib.hid (fitsAll_take hjw hjl)
      have HL := Lib.hid (line_take hjw hjl)
      have hln := line_len hft (by rw [List.all_eq_true]; exact fun x hx => hall'.out x (List.mem_of_mem_take hx))
      rw [List.length_take] at hln
      replace hft := Lib.hid hft
      rw [hft.out] at HF
      generalize ws[j] = n at *
      generalize ss[j] = s at *
      generalize lineF (ws.take j) ((ss.take j).map tx) = l at *
      simp only [inW, Bool.and_eq_true, decide_eq_true_eq] at hin
      have hsl : (tx s).length = s.size := rfl
      have SX := fun w => suffix_any (W := w) s ⟨#[32]⟩ hss
      have IX := fun w => index_any (W := w) s
      rw [show (⟨#[32]⟩ : ByteArray).data.toList = [32] from rfl] at SX
      by_cases hA : n < (s.size : Int)
      · have HQ2 := Lib.hid (HN.out (by simp only [fitsF, hsl, show ¬ (s.size : Int) ≤ n by omega, decide_false, Bool.false_and, Bool.and_false]))
        clear SX IX hsl
        go_wp2_with (first | (first | go_big_skip | ((with_reducible apply wpList_loadAll HO); exact rfl; exact rfl; (repeat (with_reducible (first | exact At.head _ | apply At.tail))); infer_instance; exact rfl; exact rfl; (simp only [Act.put, List.setIfInBounds_toArray, List.set_cons_succ, List.set_cons_zero])) | ((with_reducible apply wpList_loadOne HO); exact rfl; exact rfl; (repeat (with_reducible (first | exact At.head _ | apply At.tail))); exact rfl; infer_instance; exact rfl; (simp only [Act.put, List.setIfInBounds_toArray, List.set_cons_succ, List.set_cons_zero]))) | ((with_reducible apply wpList_loadAt1 HO); exact rfl; exact rfl; exact (fun w' h1 => hst.out w' h1.grown); infer_instance; exact rfl; (simp only [Act.put, List.setIfInBounds_toArray, List.set_cons_succ, List.set_cons_zero])) | ((with_reducible apply wpList_loadAt1 HO); exact rfl; exact rfl; exact (fun w' h1 => hst2.out w' h1.grown); infer_instance; exact rfl; (simp only [Act.put, List.setIfInBounds_toArray, List.set_cons_succ, List.set_cons_zero])))
        go_ret
        exact ⟨by rw [HQ2.out]; rfl, HO.grown⟩
      cases hsx : ([32] : List UInt8).isSuffixOf (tx s)
      rotate_left
      · have HQ2 := Lib.hid (HN.out (by simp [fitsF, hsx]))
        rw [hsx] at SX
        clear IX hsl hsx
        go_wp2_with (first | (first | go_big_skip | ((with_reducible apply wpList_loadAll HO); exact rfl; exact rfl; (repeat (with_reducible (first | exact At.head _ | apply At.tail))); infer_instance; exact rfl; exact rfl; (simp only [Act.put, List.setIfInBounds_toArray, List.set_cons_succ, List.set_cons_zero])) | ((with_reducible apply wpList_loadOne HO); exact rfl; exact rfl; (repeat (with_reducible (first | exact At.head _ | apply At.tail))); exact rfl; infer_instance; exact rfl; (simp only [Act.put, List.setIfInBounds_toArray, List.set_cons_succ, List.set_cons_zero]))) | ((with_reducible apply wpList_loadAt1 HO); exact rfl; exact rfl; exact (fun w' h1 => hst.out w' h1.grown); infer_instance; exact rfl; (simp only [Act.put, List.setIfInBounds_toArray, List.set_cons_succ, List.set_cons_zero])) | ((with_reducible apply wpList_loadAt1 HO); exact rfl; exact rfl; exact (fun w' h1 => hst2.out w' h1.grown); infer_instance; exact rfl; (simp only [Act.put, List.setIfInBounds_toArray, List.set_cons_succ, List.set_cons_zero])) | (go_at_call 15; go_must ((with_reducible refine (SX _).mono ?_); rintro e w ⟨rfl, hb⟩; replace HO := HO.call hb; clear hb)))
        go_ret
        exact ⟨by rw [HQ2.out]; rfl, HO.grown⟩
      rw [hsx] at SX
      by_cases hC : firstOdd (tx s) < 0
      rotate_left
      · have HQ2 := Lib.hid (HN.out (by
          have : (tx s).any oddB = true := by
            cases h : (tx s).any oddB
            · exact (hC (firstOdd_none.2 h)).elim
            · rfl
          simp [fitsF, this]))
        have hC' : (0 : Int) ≤ firstOdd (tx s) := by omega
        generalize firstOdd (tx s) = k at *
        clear hsl hsx
        go_wp2_with (first | (first | go_big_skip | ((with_reducible apply wpList_loadAll HO); exact rfl; exact rfl; (repeat (with_reducible (first | exact At.head _ | apply At.tail))); infer_instance; exact rfl; exact rfl; (simp only [Act.put, List.setIfInBounds_toArray, List.set_cons_succ, List.set_cons_zero])) | ((with_reducible apply wpList_loadOne HO); exact rfl; exact rfl; (repeat (with_reducible (first | exact At.head _ | apply At.tail))); exact rfl; infer_instance; exact rfl; (simp only [Act.put, List.setIfInBounds_toArray, List.set_cons_succ, List.set_cons_zero]))) | ((with_reducible apply wpList_loadAt1 HO); exact rfl; exact rfl; exact (fun w' h1 => hst.out w' h1.grown); infer_instance; exact rfl; (simp only [Act.put, List.setIfInBounds_toArray, List.set_cons_succ, List.set_cons_zero])) | ((with_reducible apply wpList_loadAt1 HO); exact rfl; exact rfl; exact (fun w' h1 => hst2.out w' h1.grown); infer_instance; exact rfl; (simp only [Act.put, List.setIfInBounds_toArray, List.set_cons_succ, List.set_cons_zero])) | (go_at_call 15; go_must ((with_reducible refine (SX _).mono ?_); rintro e w ⟨rfl, hb⟩; replace HO := HO.call hb; clear hb)) | (go_at_call 16; go_must ((with_reducible refine (IX _).mono ?_); rintro e w ⟨rfl, hb⟩; replace HO := HO.call hb; clear hb)))
        go_ret
        exact ⟨by rw [HQ2.out]; rfl, HO.grown⟩
      have HG := Lib.hid (show fitsF (tx s) n = true by simp only [fitsF, hsx, firstOdd_none.1 hC, hsl]; simp; omega)
      have hC' : ¬ (0 : Int) ≤ firstOdd (tx s) := by omega
      obtain ⟨c, rfl⟩ : ∃ c : Nat, n = (s.size : Int) + (c : Int) := ⟨(n - s.size).toNat, by omega⟩
      have HL2 := Lib.hid (show l ++ (tx s ++ List.replicate (((s.size : Int) + (c : Int)) - ((tx s).length : Int)).toNat 32) = l ++ tx (s ++ spaces c) by
        rw [cat_tx, spaces_tx, hsl, show ((s.size : Int) + (c : Int)) - (s.size : Int) = (c : Int) by omega]
        rfl)
      generalize firstOdd (tx s) = k at *
      have hsl2 := spaces_size c
      have hcs : ¬ (9223372036854775807 < s.size + (spaces c).size) := by rw [hsl2]; omega
      have hwl : l.length + (s ++ spaces c).size ≤ 140737488355328 := by
        have : (s ++ spaces c).size = s.size + (spaces c).size := ByteArray.size_append
        rw [this, hsl2]
        omega
      have RP := fun w => repeat_any (W := w) c (by omega)
      have hw1 : IntKind.i64.wrap ((s.size : Int) + (c : Int) - (s.size : Int)) = (c : Int) := by rw [IntKind.wrap_i64]; omega
      have hw2 : IntKind.i64.wrap (c : Int) = (c : Int) := by rw [IntKind.wrap_i64]; omega
      clear hsl hsx
      replace hwl := Lib.hid hwl
      clear hsl2
      generalize spaces c = sp2 at *
      go_wp2_with (first | (first | go_big_skip | ((with_reducible apply wpList_loadAll HO); exact rfl; exact rfl; (repeat (with_reducible (first | exact At.head _ | apply At.tail))); infer_instance; exact rfl; exact rfl; (simp only [Act.put, List.setIfInBounds_toArray, List.set_cons_succ, List.set_cons_zero])) | ((with_reducible apply wpList_loadOne HO); exact rfl; exact rfl; (repeat (with_reducible (first | exact At.head _ | apply At.tail))); exact rfl; infer_instance; exact rfl; (simp only [Act.put, List.setIfInBounds_toArray, List.set_cons_succ, List.set_cons_zero]))) | ((with_reducible apply wpList_loadAt1 HO); exact rfl; exact rfl; exact (fun w' h1 => hst.out w' h1.grown); infer_instance; exact rfl; (simp only [Act.put, List.setIfInBounds_toArray, List.set_cons_succ, List.set_cons_zero])) | ((with_reducible apply wpList_loadAt1 HO); exact rfl; exact rfl; exact (fun w' h1 => hst2.out w' h1.grown); infer_instance; exact rfl; (simp only [Act.put, List.setIfInBounds_toArray, List.set_cons_succ, List.set_cons_zero])) | (go_at_call 15; go_must ((with_reducible refine (SX _).mono ?_); rintro e w ⟨rfl, hb⟩; replace HB := builder_kept HB hb; replace HO := HO.call hb; clear hb)) | (go_at_call 16; go_must ((with_reducible refine (IX _).mono ?_); rintro e w ⟨rfl, hb⟩; replace HB := builder_kept HB hb; replace HO := HO.call hb; clear hb)) | (go_at_call 19; go_must ((with_reducible refine (RP _).mono ?_); rintro e w ⟨rfl, hb⟩; replace HB := builder_kept HB hb; replace HO := HO.call hb; clear hb)) | (go_at_call 18; go_must ((with_reducible refine (writeString_any W.heap.size b7 _ _ _ HB (by rw [Lib.byteCells_length]; exact hwl.out) HO.grown.size).mono ?_); rintro e w ⟨rfl, h1, hb⟩; replace HB : Lib.IsBuilder tB tU W.heap.size b7 _ w := .inr h1; replace HO := own0 (HO.grown.trans hb); clear h1 hb)))
      rw [cells_cat] at HB
      go_roundw
      case rel => exact ⟨j + 1, by omega, by go_num, by rw [HF.out, HG.out]; rfl, by rw [HL.out, HL2.out]; exact HB, HO⟩
      case measure => simp [intOf] <;> omega
    obtain rfl : j = ss.length := by omega
    rw [List.take_length, show ws.take ss.length = ws by rw [← hle.out]; exact List.take_length] at hft HB
    have HQ2 := Lib.hid (HY.out hft)
    clear hft
    go_wp2_with (first | (first | go_big_skip | ((with_reducible apply wpList_loadAll HO); exact rfl; exact rfl; (repeat (with_reducible (first | exact At.head _ | apply At.tail))); infer_instance; exact rfl; exact rfl; (simp only [Act.put, List.setIfInBounds_toArray, List.set_cons_succ, List.set_cons_zero])) | ((with_reducible apply wpList_loadOne HO); exact rfl; exact rfl; (repeat (with_reducible (first | exact At.head _ | apply At.tail))); exact rfl; infer_instance; exact rfl; (simp only [Act.put, List.setIfInBounds_toArray, List.set_cons_succ, List.set_cons_zero]))) | (go_at_call 20; go_must ((with_reducible refine (Tryd.Builder_String_any W.heap.size b7 _ _ HB HO.grown.size).mono ?_); rintro e w ⟨rfl, hb⟩; replace HO := own0 (HO.grown.trans hb); clear hb)))
    go_ret
    exact ⟨by rw [HQ2.out]; rfl, HO.grown⟩
end Go.Proofs.YtklommbknfpolaaDoor

/-
  The law FixedForm returns true, by walking its text; conditions: the widths' bytes lie in memory.
-/
import Derived.Test.YtklommbknfpolaaDoorFixBackLaw
namespace Go.Proofs.YtklommbknfpolaaDoor
open Go.RowKit Go.Own

def wid (n : Nat) : Nat := 1 + n % 40
def natC (n : Nat) : List Value := [.int .i64 (n : Int)]
theorem natC_len (ns : List Nat) : ∀ l ∈ ns.map natC, l.length = 1 := fun l hl => by obtain ⟨x, _, rfl⟩ := List.mem_map.1 hl; rfl
theorem row_ints {W w : World} {L : List Ent} {v : Value} {ns : List Nat} (hO : Own W w L) (hm : row 3 1 v (ns.map natC) ∈ L) : IsInts w v (intsOf ns) := by
  have h : IsL w 1 v (ns.map natC) := isL_of_owns (natC_len _) (hO.has _ hm)
  have e : ns.map natC = (intsOf ns).map fun n => [Value.int .i64 n] := by
    rw [intsOf, List.map_map]
    rfl
  rwa [e] at h
theorem wid_ok {ms : List Nat} (h : ms.length ≤ 100) : okW (intsOf (ms.map wid)) = true := okW_nats (by rw [List.length_map]; exact h) (fun n hn => by
  obtain ⟨x, _, rfl⟩ := List.mem_map.1 hn
  unfold wid
  omega)
theorem wid_sum : ∀ (ms : List Nat), (ms.map wid).sum ≤ 40 * ms.length
  | [] => by simp
  | m :: ms => by
    have := wid_sum ms
    simp only [List.map_cons, List.sum_cons, List.length_cons, wid]
    omega
theorem wid_take {ms : List Nat} {j : Nat} (hj : j < ms.length) : (ms.take (j + 1)).map wid = (ms.take j).map wid ++ [wid ms[j]] := by
  rw [List.take_succ_eq_append_getElem hj, List.map_append]
  rfl
set_option maxHeartbeats 8000000 in
set_option maxRecDepth 100000 in
theorem fixedForm_any {W : World} {v : Value} {ms : List Nat} (s : ByteArray) (fit : Bool) (h : IsL W 1 v (ms.map fun n : Nat => [.int .u8 (n : Int)])) (hm : ∀ n ∈ ms, n ≤ 255) (hs : s.size ≤ 9223372036854775807) :
    Calls Tryd.prog 6 #[v, .string s, .bool fit] W fun e w' => e = .returned (.bool true) ∧ Below W.heap.size W w' := by
  have HH := Lib.hid h
  have HM := Lib.hid hm
  obtain ⟨sp, sc, rfl, hmx⟩ := h.slice
  rw [List.length_map] at hmx HH ⊢
  have hmx' : (ms.length : Int) ≤ 9223372036854775807 := by unfold maxLen at hmx; omega
  clear h hm
  have HO := Own.start W
  by_cases h1 : (30 : Int) < (ms.length : Int)
  · go_enter Tryd.func6, Tryd.ntmps6
    go_wp2_with (first | (first | go_big_skip | ((with_reducible apply wpList_loadAll HO); exact rfl; exact rfl; (repeat (with_reducible (first | exact At.head _ | apply At.tail))); infer_instance; exact rfl; exact rfl; (simp only [Act.put, List.setIfInBounds_toArray, List.set_cons_succ, List.set_cons_zero])) | ((with_reducible apply wpList_loadOne HO); exact rfl; exact rfl; (repeat (with_reducible (first | exact At.head _ | apply At.tail))); exact rfl; infer_instance; exact rfl; (simp only [Act.put, List.setIfInBounds_toArray, List.set_cons_succ, List.set_cons_zero]))) | (go_at_call 7; go_must ((with_reducible refine (lined_any _).mono ?_); rintro e w ⟨rfl, hb⟩; replace HO := HO.call hb; clear hb)))
    go_ret
    exact ⟨rfl, HO.grown⟩
  by_cases h2 : (1300 : Int) < (s.size : Int)
  · go_enter Tryd.func6, Tryd.ntmps6
    go_wp2_with (first | (first | go_big_skip | ((with_reducible apply wpList_loadAll HO); exact rfl; exact rfl; (repeat (with_reducible (first | exact At.head _ | apply At.tail))); infer_instance; exact rfl; exact rfl; (simp only [Act.put, List.setIfInBounds_toArray, List.set_cons_succ, List.set_cons_zero])) | ((with_reducible apply wpList_loadOne HO); exact rfl; exact rfl; (repeat (with_reducible (first | exact At.head _ | apply At.tail))); exact rfl; infer_instance; exact rfl; (simp only [Act.put, List.setIfInBounds_toArray, List.set_cons_succ, List.set_cons_zero]))) | (go_at_call 7; go_must ((with_reducible refine (lined_any _).mono ?_); rintro e w ⟨rfl, hb⟩; replace HO := HO.call hb; clear hb)))
    go_ret
    exact ⟨rfl, HO.grown⟩
  replace HO : Own W W [row 3 1 (.slice none 0 0) (((ms.take 0).map wid).map natC)] := HO.nil 3 1
  go_enter Tryd.func6, Tryd.ntmps6
  go_wp2_with fail
  go_loopw [7, 8, 9] (fun f al i wr => ∃ (j : Nat) (fp : Option Addr) (fc : Nat), j ≤ ms.length ∧ i = .int .i64 (j : Int) ∧ al = .int .i64 ((((ms.take j).map wid).sum : Nat) : Int) ∧ f = .slice fp j fc ∧ Own W wr [row 3 1 (.slice fp j fc) (((ms.take j).map wid).map natC)]) (fun _ _ i _ => ms.length - (intOf i).toNat)
  case atStart => exact ⟨0, none, 0, by omega, rfl, rfl, rfl, HO⟩
  case round =>
    clear HO
    obtain ⟨j, fp, fc, hj, rfl, rfl, rfl, HO⟩ := hrel
    have hsm := wid_sum (ms.take j)
    rw [List.length_take] at hsm
    by_cases hjl : j < ms.length
    · have hjI : (j : Int) < (ms.length : Int) := by omega
      obtain ⟨a, rfl, hst⟩ := oldOne (f := fun n : Nat => Value.int .u8 (n : Int)) HH.out rfl hjl
      replace hst := Lib.hid hst
      have hn := HM.out ms[j] (List.getElem_mem hjl)
      have HT := Lib.hid (wid_take hjl)
      have hfl : ((ms.take j).map wid).length = j := by rw [List.length_map, List.length_take]; omega
      generalize ms[j] = n at *
      have hw1 : IntKind.i64.wrap (n : Int) = (n : Int) := by rw [IntKind.wrap_i64]; omega
      have hw2 : (n : Int).tmod 40 = ((n % 40 : Nat) : Int) := by rw [Int.tmod_eq_emod_of_nonneg (by omega)]; rfl
      have hw3 : IntKind.i64.wrap (1 + ((n % 40 : Nat) : Int)) = ((wid n : Nat) : Int) := by rw [IntKind.wrap_i64]; unfold wid; omega
      have hwn : wid n ≤ 40 := by unfold wid; omega
      generalize n % 40 = r at *
      generalize wid n = q at *
      generalize (ms.take j).map wid = A at *
      go_upto_region 9 with (first | (first | go_big_skip | ((with_reducible apply wpList_loadAll HO); exact rfl; exact rfl; (repeat (with_reducible (first | exact At.head _ | apply At.tail))); infer_instance; exact rfl; exact rfl; (simp only [Act.put, List.setIfInBounds_toArray, List.set_cons_succ, List.set_cons_zero])) | ((with_reducible apply wpList_loadOne HO); exact rfl; exact rfl; (repeat (with_reducible (first | exact At.head _ | apply At.tail))); exact rfl; infer_instance; exact rfl; (simp only [Act.put, List.setIfInBounds_toArray, List.set_cons_succ, List.set_cons_zero]))) | ((with_reducible apply wpList_loadAt1 HO); exact rfl; exact rfl; exact (fun w' h1 => hst.out w' h1.grown); infer_instance; exact rfl; (simp only [Act.put, List.setIfInBounds_toArray, List.set_cons_succ, List.set_cons_zero])) | (first | ((with_reducible apply wpList_lit1 HO); exact rfl; infer_instance; infer_instance; exact rfl; exact rfl; exact (by decide); exact rfl; clear HO; intro bb w HO; (simp only [Act.put, List.setIfInBounds_toArray, List.set_cons_succ, List.set_cons_zero])) | ((with_reducible apply wpList_lit1c HO); exact rfl; infer_instance; infer_instance; (first | (simp [Act.eval]; rfl) | exact rfl); exact rfl; exact rfl; clear HO; intro bb w HO; (simp only [Act.put, List.setIfInBounds_toArray, List.set_cons_succ, List.set_cons_zero]))) | ((with_reducible apply wpList_push1 HO); exact rfl; infer_instance; infer_instance; (first | (simp [Act.eval]; rfl) | exact rfl); exact rfl; intro _; (repeat (with_reducible (first | exact At.head _ | apply At.tail))); exact rfl; exact rfl; (first | omega | (simp; omega)); decide; exact rfl; clear HO; intro v2 w HO hv2; (simp only [Act.put, List.setIfInBounds_toArray, List.set_cons_succ, List.set_cons_zero])))
      obtain ⟨a2, c2, rfl⟩ := (HO.rowForm (t := 3) (k := 1) (v := v2) (A := A.map natC ++ [[.int .i64 (q : Int)]]) (.head _)).2 (by simp)
      have hlen2 : (A.map natC ++ [[Value.int .i64 (q : Int)]]).length = j + 1 := by simp [hfl]
      rw [hlen2] at HO ⊢
      have hst2 : ∀ w', Own W w' [row 3 1 (.slice (some a2) (j + 1) c2) (A.map natC ++ [[.int .i64 (q : Int)]])] → w'.cell? (a2.add j) = some (.int .i64 (q : Int)) := fun w' h1 => by
        have := h1.rowAt (i := j) (l := [.int .i64 (q : Int)]) (.head _) (fun l hl => by
          rcases List.mem_append.1 hl with hl | hl
          · exact natC_len _ l hl
          · rw [List.mem_singleton.1 hl]; rfl) (by rw [List.getElem?_append_right (by simp [hfl])]; simp [hfl]) 0 _ rfl
        rw [Nat.mul_one, add0] at this
        exact this
      replace hst2 := Lib.hid hst2
      have hjI2 : (j : Int) < ((j + 1 : Nat) : Int) := by omega
      have hw4 : IntKind.i64.wrap ((A.sum : Int) + (q : Int)) = (((A ++ [q]).sum : Nat) : Int) := by
        rw [List.sum_append, IntKind.wrap_i64]
        simp
        omega
      go_wp2_with (first | (first | go_big_skip | ((with_reducible apply wpList_loadAll HO); exact rfl; exact rfl; (repeat (with_reducible (first | exact At.head _ | apply At.tail))); infer_instance; exact rfl; exact rfl; (simp only [Act.put, List.setIfInBounds_toArray, List.set_cons_succ, List.set_cons_zero])) | ((with_reducible apply wpList_loadOne HO); exact rfl; exact rfl; (repeat (with_reducible (first | exact At.head _ | apply At.tail))); exact rfl; infer_instance; exact rfl; (simp only [Act.put, List.setIfInBounds_toArray, List.set_cons_succ, List.set_cons_zero]))) | ((with_reducible apply wpList_loadAt1 HO); exact rfl; exact rfl; exact (fun w' h1 => hst2.out w' h1); infer_instance; exact rfl; (simp only [Act.put, List.setIfInBounds_toArray, List.set_cons_succ, List.set_cons_zero])))
      go_roundw
      case rel => exact ⟨j + 1, some a2, c2, by omega, by go_num, by rw [HT.out, List.sum_append]; simp, rfl, by rw [HT.out, List.map_append]; exact HO⟩
      case measure => simp [intOf] <;> omega
    obtain rfl : j = ms.length := by omega
    rw [List.take_length] at HO hsm ⊢
    have hok := wid_ok (ms := ms) (by omega)
    have hln : (ms.map wid).length = ms.length := List.length_map _
    generalize ms.map wid = ns at *
    -- the end, printed by mkform.py
    have hcase : (fit = true ∧ (ns.sum : Int) < (s.size : Int)) ∨ (fit = false ∨ ¬ (ns.sum : Int) < (s.size : Int)) := by
      cases fit
      · exact .inr (.inl rfl)
      · by_cases h : (ns.sum : Int) < (s.size : Int)
        · exact .inl ⟨rfl, h⟩
        · exact .inr (.inr h)
    rcases hcase with ⟨rfl, hgt⟩ | hcase
    · have hex := size_extract s 0 ns.sum (by omega) (by omega)
      rw [Nat.sub_zero] at hex
      have g1 : ((ns.sum : Nat) : Int) ≤ (s.size : Int) := by omega
      have g2 : (0 : Int) ≤ ((ns.sum : Nat) : Int) := by omega
      have PA := fun (w' : World) (hO : Own W w' [row 3 1 (.slice fp ms.length fc) (ns.map natC)]) => parse_any (W := w') (s.extract 0 ns.sum) (row_ints hO List.mem_cons_self) (by rw [hex]; omega)
      have HB := Lib.hid (form_back hok (tx (s.extract 0 ns.sum)))
      have HC := Lib.hid (form_col hok (tx (s.extract 0 ns.sum)))
      have HS := Lib.hid (parse_short hok (tx (s.extract 0 ns.sum)))
      have hyl : (tx (s.extract 0 ns.sum)).length = ((s.extract 0 ns.sum)).size := rfl
      rw [hyl] at HC HS
      generalize parseF (intsOf ns) (tx (s.extract 0 ns.sum)) = R at *
      obtain ⟨fs, col⟩ := R
      simp only at HB HC HS
      by_cases hc : col = 0
      · obtain ⟨hfl, hpr⟩ := HB.out hc
        subst hc
        have PB : ∀ (w' : World) (p : Option Addr) (c : Nat), Own W w' [row 9 1 (.slice p fs.length c) (fs.map strC), row 3 1 (.slice fp ms.length fc) (ns.map natC)] → Calls Tryd.prog 8 #[.slice fp ms.length fc, .slice p fs.length c] w' fun e w'' => e = .returned (.string (s.extract 0 ns.sum)) ∧ Below w'.heap.size w' w'' := fun w' p c hO => by
          have h2 := parse_sts hO List.mem_cons_self
          have := print_any (row_ints hO (List.mem_cons_of_mem _ List.mem_cons_self)) h2 (fun s2 hs2 => by
            obtain ⟨f, hf, rfl⟩ := List.mem_map.1 hs2
            have := HS.out f hf
            show f.length ≤ _
            have hy2 : ((s.extract 0 ns.sum)).size ≤ 9223372036854775807 := by rw [hex]; omega
            omega)
          rw [List.map_map, show (fs.map (tx ∘ fun f => (⟨f.toArray⟩ : ByteArray))) = fs from (List.map_congr_left (fun f _ => rfl)).trans (List.map_id _), hpr, ← of_tx] at this
          exact this
        have hl2 : ((fs.length : Int) == (ms.length : Int)) = true := by rw [hfl, hln]; simp
        have hy3 : (((s.extract 0 ns.sum)).toList == ((s.extract 0 ns.sum)).toList) = true := by simp
        clear HB HC HS hpr
        replace hfl := Lib.hid hfl
        go_wp2_with (first | (first | go_big_skip | ((with_reducible apply wpList_loadAll HO); exact rfl; exact rfl; (repeat (with_reducible (first | exact At.head _ | apply At.tail))); infer_instance; exact rfl; exact rfl; (simp only [Act.put, List.setIfInBounds_toArray, List.set_cons_succ, List.set_cons_zero])) | ((with_reducible apply wpList_loadOne HO); exact rfl; exact rfl; (repeat (with_reducible (first | exact At.head _ | apply At.tail))); exact rfl; infer_instance; exact rfl; (simp only [Act.put, List.setIfInBounds_toArray, List.set_cons_succ, List.set_cons_zero]))) | (go_at_call 10; go_must ((with_reducible refine (PA _ HO).mono ?_); rintro e w ⟨p, c, rfl, HO1⟩; replace HO := HO.lift HO1; clear HO1; simp only [List.cons_append, List.nil_append] at HO)) | (go_at_call 8; go_must ((with_reducible refine (PB _ _ _ HO).mono ?_); rintro e w ⟨rfl, hb⟩; replace HO := HO.call hb; clear hb)) | (go_at_call 7; go_must ((with_reducible refine (lined_any _).mono ?_); rintro e w ⟨rfl, hb⟩; replace HO := HO.call hb; clear hb)))
        go_ret
        exact ⟨rfl, HO.grown⟩
      · obtain ⟨hf0, hc1, hc2⟩ := HC.out hc
        have hc3 : (col == 0) = false := by simpa using hc
        subst hf0
        clear HB HC HS
        replace hc := Lib.hid hc
        have hy2 : ((s.extract 0 ns.sum)).size ≤ 1300 := by rw [hex]; omega
        have hw5 : IntKind.i64.wrap ((((s.extract 0 ns.sum)).size : Int) + 1) = (((s.extract 0 ns.sum)).size : Int) + 1 := by rw [IntKind.wrap_i64]; omega
        go_wp2_with (first | (first | go_big_skip | ((with_reducible apply wpList_loadAll HO); exact rfl; exact rfl; (repeat (with_reducible (first | exact At.head _ | apply At.tail))); infer_instance; exact rfl; exact rfl; (simp only [Act.put, List.setIfInBounds_toArray, List.set_cons_succ, List.set_cons_zero])) | ((with_reducible apply wpList_loadOne HO); exact rfl; exact rfl; (repeat (with_reducible (first | exact At.head _ | apply At.tail))); exact rfl; infer_instance; exact rfl; (simp only [Act.put, List.setIfInBounds_toArray, List.set_cons_succ, List.set_cons_zero]))) | (go_at_call 10; go_must ((with_reducible refine (PA _ HO).mono ?_); rintro e w ⟨p, c, rfl, HO1⟩; replace HO := HO.lift HO1; clear HO1; simp only [List.cons_append, List.nil_append] at HO)) | (go_at_call 7; go_must ((with_reducible refine (lined_any _).mono ?_); rintro e w ⟨rfl, hb⟩; replace HO := HO.call hb; clear hb)))
        go_ret
        exact ⟨rfl, HO.grown⟩
    rcases hcase with rfl | hle
    · have PA := fun (w' : World) (hO : Own W w' [row 3 1 (.slice fp ms.length fc) (ns.map natC)]) => parse_any (W := w') s (row_ints hO List.mem_cons_self) (by omega)
      have HB := Lib.hid (form_back hok (tx s))
      have HC := Lib.hid (form_col hok (tx s))
      have HS := Lib.hid (parse_short hok (tx s))
      have hyl : (tx s).length = (s).size := rfl
      rw [hyl] at HC HS
      generalize parseF (intsOf ns) (tx s) = R at *
      obtain ⟨fs, col⟩ := R
      simp only at HB HC HS
      by_cases hc : col = 0
      · obtain ⟨hfl, hpr⟩ := HB.out hc
        subst hc
        have PB : ∀ (w' : World) (p : Option Addr) (c : Nat), Own W w' [row 9 1 (.slice p fs.length c) (fs.map strC), row 3 1 (.slice fp ms.length fc) (ns.map natC)] → Calls Tryd.prog 8 #[.slice fp ms.length fc, .slice p fs.length c] w' fun e w'' => e = .returned (.string s) ∧ Below w'.heap.size w' w'' := fun w' p c hO => by
          have h2 := parse_sts hO List.mem_cons_self
          have := print_any (row_ints hO (List.mem_cons_of_mem _ List.mem_cons_self)) h2 (fun s2 hs2 => by
            obtain ⟨f, hf, rfl⟩ := List.mem_map.1 hs2
            have := HS.out f hf
            show f.length ≤ _
            have hy2 : (s).size ≤ 9223372036854775807 := by omega
            omega)
          rw [List.map_map, show (fs.map (tx ∘ fun f => (⟨f.toArray⟩ : ByteArray))) = fs from (List.map_congr_left (fun f _ => rfl)).trans (List.map_id _), hpr, ← of_tx] at this
          exact this
        have hl2 : ((fs.length : Int) == (ms.length : Int)) = true := by rw [hfl, hln]; simp
        have hy3 : ((s).toList == (s).toList) = true := by simp
        clear HB HC HS hpr
        replace hfl := Lib.hid hfl
        go_wp2_with (first | (first | go_big_skip | ((with_reducible apply wpList_loadAll HO); exact rfl; exact rfl; (repeat (with_reducible (first | exact At.head _ | apply At.tail))); infer_instance; exact rfl; exact rfl; (simp only [Act.put, List.setIfInBounds_toArray, List.set_cons_succ, List.set_cons_zero])) | ((with_reducible apply wpList_loadOne HO); exact rfl; exact rfl; (repeat (with_reducible (first | exact At.head _ | apply At.tail))); exact rfl; infer_instance; exact rfl; (simp only [Act.put, List.setIfInBounds_toArray, List.set_cons_succ, List.set_cons_zero]))) | (go_at_call 10; go_must ((with_reducible refine (PA _ HO).mono ?_); rintro e w ⟨p, c, rfl, HO1⟩; replace HO := HO.lift HO1; clear HO1; simp only [List.cons_append, List.nil_append] at HO)) | (go_at_call 8; go_must ((with_reducible refine (PB _ _ _ HO).mono ?_); rintro e w ⟨rfl, hb⟩; replace HO := HO.call hb; clear hb)) | (go_at_call 7; go_must ((with_reducible refine (lined_any _).mono ?_); rintro e w ⟨rfl, hb⟩; replace HO := HO.call hb; clear hb)))
        go_ret
        exact ⟨rfl, HO.grown⟩
      · obtain ⟨hf0, hc1, hc2⟩ := HC.out hc
        have hc3 : (col == 0) = false := by simpa using hc
        subst hf0
        clear HB HC HS
        replace hc := Lib.hid hc
        have hy2 : (s).size ≤ 1300 := by omega
        have hw5 : IntKind.i64.wrap (((s).size : Int) + 1) = ((s).size : Int) + 1 := by rw [IntKind.wrap_i64]; omega
        go_wp2_with (first | (first | go_big_skip | ((with_reducible apply wpList_loadAll HO); exact rfl; exact rfl; (repeat (with_reducible (first | exact At.head _ | apply At.tail))); infer_instance; exact rfl; exact rfl; (simp only [Act.put, List.setIfInBounds_toArray, List.set_cons_succ, List.set_cons_zero])) | ((with_reducible apply wpList_loadOne HO); exact rfl; exact rfl; (repeat (with_reducible (first | exact At.head _ | apply At.tail))); exact rfl; infer_instance; exact rfl; (simp only [Act.put, List.setIfInBounds_toArray, List.set_cons_succ, List.set_cons_zero]))) | (go_at_call 10; go_must ((with_reducible refine (PA _ HO).mono ?_); rintro e w ⟨p, c, rfl, HO1⟩; replace HO := HO.lift HO1; clear HO1; simp only [List.cons_append, List.nil_append] at HO)) | (go_at_call 7; go_must ((with_reducible refine (lined_any _).mono ?_); rintro e w ⟨rfl, hb⟩; replace HO := HO.call hb; clear hb)))
        go_ret
        exact ⟨rfl, HO.grown⟩
    · cases fit
      · have PA := fun (w' : World) (hO : Own W w' [row 3 1 (.slice fp ms.length fc) (ns.map natC)]) => parse_any (W := w') s (row_ints hO List.mem_cons_self) (by omega)
        have HB := Lib.hid (form_back hok (tx s))
        have HC := Lib.hid (form_col hok (tx s))
        have HS := Lib.hid (parse_short hok (tx s))
        have hyl : (tx s).length = (s).size := rfl
        rw [hyl] at HC HS
        generalize parseF (intsOf ns) (tx s) = R at *
        obtain ⟨fs, col⟩ := R
        simp only at HB HC HS
        by_cases hc : col = 0
        · obtain ⟨hfl, hpr⟩ := HB.out hc
          subst hc
          have PB : ∀ (w' : World) (p : Option Addr) (c : Nat), Own W w' [row 9 1 (.slice p fs.length c) (fs.map strC), row 3 1 (.slice fp ms.length fc) (ns.map natC)] → Calls Tryd.prog 8 #[.slice fp ms.length fc, .slice p fs.length c] w' fun e w'' => e = .returned (.string s) ∧ Below w'.heap.size w' w'' := fun w' p c hO => by
            have h2 := parse_sts hO List.mem_cons_self
            have := print_any (row_ints hO (List.mem_cons_of_mem _ List.mem_cons_self)) h2 (fun s2 hs2 => by
              obtain ⟨f, hf, rfl⟩ := List.mem_map.1 hs2
              have := HS.out f hf
              show f.length ≤ _
              have hy2 : (s).size ≤ 9223372036854775807 := by omega
              omega)
            rw [List.map_map, show (fs.map (tx ∘ fun f => (⟨f.toArray⟩ : ByteArray))) = fs from (List.map_congr_left (fun f _ => rfl)).trans (List.map_id _), hpr, ← of_tx] at this
            exact this
          have hl2 : ((fs.length : Int) == (ms.length : Int)) = true := by rw [hfl, hln]; simp
          have hy3 : ((s).toList == (s).toList) = true := by simp
          clear HB HC HS hpr
          replace hfl := Lib.hid hfl
          go_wp2_with (first | (first | go_big_skip | ((with_reducible apply wpList_loadAll HO); exact rfl; exact rfl; (repeat (with_reducible (first | exact At.head _ | apply At.tail))); infer_instance; exact rfl; exact rfl; (simp only [Act.put, List.setIfInBounds_toArray, List.set_cons_succ, List.set_cons_zero])) | ((with_reducible apply wpList_loadOne HO); exact rfl; exact rfl; (repeat (with_reducible (first | exact At.head _ | apply At.tail))); exact rfl; infer_instance; exact rfl; (simp only [Act.put, List.setIfInBounds_toArray, List.set_cons_succ, List.set_cons_zero]))) | (go_at_call 10; go_must ((with_reducible refine (PA _ HO).mono ?_); rintro e w ⟨p, c, rfl, HO1⟩; replace HO := HO.lift HO1; clear HO1; simp only [List.cons_append, List.nil_append] at HO)) | (go_at_call 8; go_must ((with_reducible refine (PB _ _ _ HO).mono ?_); rintro e w ⟨rfl, hb⟩; replace HO := HO.call hb; clear hb)) | (go_at_call 7; go_must ((with_reducible refine (lined_any _).mono ?_); rintro e w ⟨rfl, hb⟩; replace HO := HO.call hb; clear hb)))
          go_ret
          exact ⟨rfl, HO.grown⟩
        · obtain ⟨hf0, hc1, hc2⟩ := HC.out hc
          have hc3 : (col == 0) = false := by simpa using hc
          subst hf0
          clear HB HC HS
          replace hc := Lib.hid hc
          have hy2 : (s).size ≤ 1300 := by omega
          have hw5 : IntKind.i64.wrap (((s).size : Int) + 1) = ((s).size : Int) + 1 := by rw [IntKind.wrap_i64]; omega
          go_wp2_with (first | (first | go_big_skip | ((with_reducible apply wpList_loadAll HO); exact rfl; exact rfl; (repeat (with_reducible (first | exact At.head _ | apply At.tail))); infer_instance; exact rfl; exact rfl; (simp only [Act.put, List.setIfInBounds_toArray, List.set_cons_succ, List.set_cons_zero])) | ((with_reducible apply wpList_loadOne HO); exact rfl; exact rfl; (repeat (with_reducible (first | exact At.head _ | apply At.tail))); exact rfl; infer_instance; exact rfl; (simp only [Act.put, List.setIfInBounds_toArray, List.set_cons_succ, List.set_cons_zero]))) | (go_at_call 10; go_must ((with_reducible refine (PA _ HO).mono ?_); rintro e w ⟨p, c, rfl, HO1⟩; replace HO := HO.lift HO1; clear HO1; simp only [List.cons_append, List.nil_append] at HO)) | (go_at_call 7; go_must ((with_reducible refine (lined_any _).mono ?_); rintro e w ⟨rfl, hb⟩; replace HO := HO.call hb; clear hb)))
          go_ret
          exact ⟨rfl, HO.grown⟩
      · have PA := fun (w' : World) (hO : Own W w' [row 3 1 (.slice fp ms.length fc) (ns.map natC)]) => parse_any (W := w') s (row_ints hO List.mem_cons_self) (by omega)
        have HB := Lib.hid (form_back hok (tx s))
        have HC := Lib.hid (form_col hok (tx s))
        have HS := Lib.hid (parse_short hok (tx s))
        have hyl : (tx s).length = (s).size := rfl
        rw [hyl] at HC HS
        generalize parseF (intsOf ns) (tx s) = R at *
        obtain ⟨fs, col⟩ := R
        simp only at HB HC HS
        by_cases hc : col = 0
        · obtain ⟨hfl, hpr⟩ := HB.out hc
          subst hc
          have PB : ∀ (w' : World) (p : Option Addr) (c : Nat), Own W w' [row 9 1 (.slice p fs.length c) (fs.map strC), row 3 1 (.slice fp ms.length fc) (ns.map natC)] → Calls Tryd.prog 8 #[.slice fp ms.length fc, .slice p fs.length c] w' fun e w'' => e = .returned (.string s) ∧ Below w'.heap.size w' w'' := fun w' p c hO => by
            have h2 := parse_sts hO List.mem_cons_self
            have := print_any (row_ints hO (List.mem_cons_of_mem _ List.mem_cons_self)) h2 (fun s2 hs2 => by
              obtain ⟨f, hf, rfl⟩ := List.mem_map.1 hs2
              have := HS.out f hf
              show f.length ≤ _
              have hy2 : (s).size ≤ 9223372036854775807 := by omega
              omega)
            rw [List.map_map, show (fs.map (tx ∘ fun f => (⟨f.toArray⟩ : ByteArray))) = fs from (List.map_congr_left (fun f _ => rfl)).trans (List.map_id _), hpr, ← of_tx] at this
            exact this
          have hl2 : ((fs.length : Int) == (ms.length : Int)) = true := by rw [hfl, hln]; simp
          have hy3 : ((s).toList == (s).toList) = true := by simp
          clear HB HC HS hpr
          replace hfl := Lib.hid hfl
          go_wp2_with (first | (first | go_big_skip | ((with_reducible apply wpList_loadAll HO); exact rfl; exact rfl; (repeat (with_reducible (first | exact At.head _ | apply At.tail))); infer_instance; exact rfl; exact rfl; (simp only [Act.put, List.setIfInBounds_toArray, List.set_cons_succ, List.set_cons_zero])) | ((with_reducible apply wpList_loadOne HO); exact rfl; exact rfl; (repeat (with_reducible (first | exact At.head _ | apply At.tail))); exact rfl; infer_instance; exact rfl; (simp only [Act.put, List.setIfInBounds_toArray, List.set_cons_succ, List.set_cons_zero]))) | (go_at_call 10; go_must ((with_reducible refine (PA _ HO).mono ?_); rintro e w ⟨p, c, rfl, HO1⟩; replace HO := HO.lift HO1; clear HO1; simp only [List.cons_append, List.nil_append] at HO)) | (go_at_call 8; go_must ((with_reducible refine (PB _ _ _ HO).mono ?_); rintro e w ⟨rfl, hb⟩; replace HO := HO.call hb; clear hb)) | (go_at_call 7; go_must ((with_reducible refine (lined_any _).mono ?_); rintro e w ⟨rfl, hb⟩; replace HO := HO.call hb; clear hb)))
          go_ret
          exact ⟨rfl, HO.grown⟩
        · obtain ⟨hf0, hc1, hc2⟩ := HC.out hc
          have hc3 : (col == 0) = false := by simpa using hc
          subst hf0
          clear HB HC HS
          replace hc := Lib.hid hc
          have hy2 : (s).size ≤ 1300 := by omega
          have hw5 : IntKind.i64.wrap (((s).size : Int) + 1) = ((s).size : Int) + 1 := by rw [IntKind.wrap_i64]; omega
          go_wp2_with (first | (first | go_big_skip | ((with_reducible apply wpList_loadAll HO); exact rfl; exact rfl; (repeat (with_reducible (first | exact At.head _ | apply At.tail))); infer_instance; exact rfl; exact rfl; (simp only [Act.put, List.setIfInBounds_toArray, List.set_cons_succ, List.set_cons_zero])) | ((with_reducible apply wpList_loadOne HO); exact rfl; exact rfl; (repeat (with_reducible (first | exact At.head _ | apply At.tail))); exact rfl; infer_instance; exact rfl; (simp only [Act.put, List.setIfInBounds_toArray, List.set_cons_succ, List.set_cons_zero]))) | (go_at_call 10; go_must ((with_reducible refine (PA _ HO).mono ?_); rintro e w ⟨p, c, rfl, HO1⟩; replace HO := HO.lift HO1; clear HO1; simp only [List.cons_append, List.nil_append] at HO)) | (go_at_call 7; go_must ((with_reducible refine (lined_any _).mono ?_); rintro e w ⟨rfl, hb⟩; replace HO := HO.call hb; clear hb)))
          go_ret
          exact ⟨rfl, HO.grown⟩
end Go.Proofs.YtklommbknfpolaaDoor

/-
  The laws FixedPrint and FixedParse return true, by walking their texts; conditions: widths and fields lie in memory.
-/
import Derived.Test.YtklommbknfpolaaDoorFixLined
namespace Go.Proofs.YtklommbknfpolaaDoor
open Go.RowKit Go.Own

set_option maxHeartbeats 8000000 in
set_option maxRecDepth 100000 in
theorem fixedPrint_any {W : World} {v vs : Value} {ws : List Int} {ss : List ByteArray} (h : IsInts W v ws) (hs : IsStrs W vs ss) (hsz : ∀ s ∈ ss, s.size ≤ 9223372036854775807) :
    Calls Tryd.prog 3 #[v, vs] W fun e w' => e = .returned (.bool true) ∧ Below W.heap.size W w' := by
  have PA := fun w (hb : Below W.heap.size W w) => print_any (W := w) (h.below hb h.lt) (hs.below hb hs.lt) hsz
  have PB := fun w (hb : Below W.heap.size W w) => printRef_any (W := w) (h.below hb h.lt) (hs.below hb hs.lt) hsz
  have HT := Lib.hid hs
  generalize printF ws (ss.map tx) = R at *
  obtain ⟨sp, sc, rfl, hmx⟩ := h.slice
  obtain ⟨tp, tc, rfl, hmt⟩ := hs.slice
  rw [List.length_map] at hmx hmt HT PA PB ⊢
  rw [List.length_map] at PA PB ⊢
  have hmx' : (ws.length : Int) ≤ 9223372036854775807 := by unfold maxLen at hmx; omega
  have hmt' : (ss.length : Int) ≤ 9223372036854775807 := by unfold maxLen at hmt; omega
  clear h hs hsz
  have HO := Own.start W
  by_cases h1 : (120 : Int) < (ws.length : Int)
  · go_enter Tryd.func3, Tryd.ntmps3
    go_wp2_with (first | (first | go_big_skip | ((with_reducible apply wpList_loadAll HO); exact rfl; exact rfl; (repeat (with_reducible (first | exact At.head _ | apply At.tail))); infer_instance; exact rfl; exact rfl; (simp only [Act.put, List.setIfInBounds_toArray, List.set_cons_succ, List.set_cons_zero])) | ((with_reducible apply wpList_loadOne HO); exact rfl; exact rfl; (repeat (with_reducible (first | exact At.head _ | apply At.tail))); exact rfl; infer_instance; exact rfl; (simp only [Act.put, List.setIfInBounds_toArray, List.set_cons_succ, List.set_cons_zero]))) | (go_at_call 7; go_must ((with_reducible refine (lined_any _).mono ?_); rintro e w ⟨rfl, hb⟩; replace HO := HO.call hb; clear hb)))
    go_ret
    exact ⟨rfl, HO.grown⟩
  by_cases h2 : (120 : Int) < (ss.length : Int)
  · go_enter Tryd.func3, Tryd.ntmps3
    go_wp2_with (first | (first | go_big_skip | ((with_reducible apply wpList_loadAll HO); exact rfl; exact rfl; (repeat (with_reducible (first | exact At.head _ | apply At.tail))); infer_instance; exact rfl; exact rfl; (simp only [Act.put, List.setIfInBounds_toArray, List.set_cons_succ, List.set_cons_zero])) | ((with_reducible apply wpList_loadOne HO); exact rfl; exact rfl; (repeat (with_reducible (first | exact At.head _ | apply At.tail))); exact rfl; infer_instance; exact rfl; (simp only [Act.put, List.setIfInBounds_toArray, List.set_cons_succ, List.set_cons_zero]))) | (go_at_call 7; go_must ((with_reducible refine (lined_any _).mono ?_); rintro e w ⟨rfl, hb⟩; replace HO := HO.call hb; clear hb)))
    go_ret
    exact ⟨rfl, HO.grown⟩
  go_enter Tryd.func3, Tryd.ntmps3
  go_wp2_with fail
  go_loopw [5] (fun i wr => ∃ j : Nat, j ≤ ss.length ∧ i = .int .i64 (j : Int) ∧ Own W wr []) (fun i _ => ss.length - (intOf i).toNat)
  case atStart => exact ⟨0, by omega, rfl, HO⟩
  case round =>
    clear HO
    obtain ⟨j, hj, rfl, HO⟩ := hrel
    by_cases hjl : j < ss.length
    · have hjI : (j : Int) < (ss.length : Int) := by omega
      obtain ⟨a, rfl, hst⟩ := oldOne HT.out rfl hjl
      replace hst := Lib.hid hst
      generalize ss[j] = s at *
      by_cases h3 : (1100 : Int) < (s.size : Int)
      · go_wp2_with (first | (first | go_big_skip | ((with_reducible apply wpList_loadAll HO); exact rfl; exact rfl; (repeat (with_reducible (first | exact At.head _ | apply At.tail))); infer_instance; exact rfl; exact rfl; (simp only [Act.put, List.setIfInBounds_toArray, List.set_cons_succ, List.set_cons_zero])) | ((with_reducible apply wpList_loadOne HO); exact rfl; exact rfl; (repeat (with_reducible (first | exact At.head _ | apply At.tail))); exact rfl; infer_instance; exact rfl; (simp only [Act.put, List.setIfInBounds_toArray, List.set_cons_succ, List.set_cons_zero]))) | ((with_reducible apply wpList_loadAt1 HO); exact rfl; exact rfl; exact (fun w' h1 => hst.out w' h1.grown); infer_instance; exact rfl; (simp only [Act.put, List.setIfInBounds_toArray, List.set_cons_succ, List.set_cons_zero])) | (go_at_call 7; go_must ((with_reducible refine (lined_any _).mono ?_); rintro e w ⟨rfl, hb⟩; replace HO := HO.call hb; clear hb)))
        go_ret
        exact ⟨rfl, HO.grown⟩
      go_wp2_with (first | (first | go_big_skip | ((with_reducible apply wpList_loadAll HO); exact rfl; exact rfl; (repeat (with_reducible (first | exact At.head _ | apply At.tail))); infer_instance; exact rfl; exact rfl; (simp only [Act.put, List.setIfInBounds_toArray, List.set_cons_succ, List.set_cons_zero])) | ((with_reducible apply wpList_loadOne HO); exact rfl; exact rfl; (repeat (with_reducible (first | exact At.head _ | apply At.tail))); exact rfl; infer_instance; exact rfl; (simp only [Act.put, List.setIfInBounds_toArray, List.set_cons_succ, List.set_cons_zero]))) | ((with_reducible apply wpList_loadAt1 HO); exact rfl; exact rfl; exact (fun w' h1 => hst.out w' h1.grown); infer_instance; exact rfl; (simp only [Act.put, List.setIfInBounds_toArray, List.set_cons_succ, List.set_cons_zero])))
      go_roundw
      case rel => exact ⟨j + 1, by omega, by go_num, HO⟩
      case measure => simp [intOf] <;> omega
    obtain rfl : j = ss.length := by omega
    go_wp2_with (first | (first | go_big_skip | ((with_reducible apply wpList_loadAll HO); exact rfl; exact rfl; (repeat (with_reducible (first | exact At.head _ | apply At.tail))); infer_instance; exact rfl; exact rfl; (simp only [Act.put, List.setIfInBounds_toArray, List.set_cons_succ, List.set_cons_zero])) | ((with_reducible apply wpList_loadOne HO); exact rfl; exact rfl; (repeat (with_reducible (first | exact At.head _ | apply At.tail))); exact rfl; infer_instance; exact rfl; (simp only [Act.put, List.setIfInBounds_toArray, List.set_cons_succ, List.set_cons_zero]))) | (go_at_call 8; go_must ((with_reducible refine (PA _ HO.grown).mono ?_); rintro e w ⟨rfl, hb⟩; replace HO := HO.call hb; clear hb)) | (go_at_call 9; go_must ((with_reducible refine (PB _ HO.grown).mono ?_); rintro e w ⟨rfl, hb⟩; replace HO := HO.call hb; clear hb)) | (go_at_call 7; go_must ((with_reducible refine (lined_any _).mono ?_); rintro e w ⟨rfl, hb⟩; replace HO := HO.call hb; clear hb)))
    go_ret
    exact ⟨rfl, HO.grown⟩
theorem parse_sts {W w : World} {L : List Ent} {p : Option Addr} {n c : Nat} {fs : List (List UInt8)} (hO : Own W w L) (hm : row 9 1 (.slice p n c) (fs.map strC) ∈ L) : IsStrs w (.slice p n c) (fs.map fun f => ⟨f.toArray⟩) := by
  have h : IsL w 1 (.slice p n c) (fs.map strC) := isL_of_owns (strC_len _) (hO.has _ hm)
  have e : fs.map strC = (fs.map fun f => (⟨f.toArray⟩ : ByteArray)).map fun s => [Value.string s] := by
    rw [List.map_map]
    rfl
  rw [e] at h
  exact h
set_option maxHeartbeats 8000000 in
set_option maxRecDepth 100000 in
theorem fixedParse_any {W : World} {v : Value} {ws : List Int} (s : ByteArray) (h : IsInts W v ws) (hs : s.size ≤ 9223372036854775807) :
    Calls Tryd.prog 4 #[v, .string s] W fun e w' => e = .returned (.bool true) ∧ Below W.heap.size W w' := by
  have PA := fun w (hb : Below W.heap.size W w) => parse_any (W := w) s (h.below hb h.lt) hs
  have PB := fun w (hb : Below W.heap.size W w) => parseRef_any (W := w) s (h.below hb h.lt) hs
  generalize parseF ws (tx s) = R at *
  obtain ⟨fs, col⟩ := R
  obtain ⟨sp, sc, rfl, hmx⟩ := h.slice
  rw [List.length_map] at hmx PA PB ⊢
  have hmx' : (ws.length : Int) ≤ 9223372036854775807 := by unfold maxLen at hmx; omega
  clear h
  have SM : ∀ (w : World) (L : List Ent) (p p2 : Option Addr) (c c2 : Nat), Own W w L → row 9 1 (.slice p fs.length c) (fs.map strC) ∈ L → row 9 1 (.slice p2 fs.length c2) (fs.map strC) ∈ L → Calls Tryd.prog 12 #[.slice p fs.length c, .slice p2 fs.length c2] w fun e w' => e = .returned (.bool true) ∧ Below w.heap.size w w' := fun w L p p2 c c2 hO hm hm2 => by
    have := same_any (parse_sts hO hm) (parse_sts hO hm2)
    rwa [decide_eq_true rfl] at this
  have HO := Own.start W
  by_cases h1 : (120 : Int) < (ws.length : Int)
  · go_enter Tryd.func4, Tryd.ntmps4
    go_wp2_with (first | (first | go_big_skip | ((with_reducible apply wpList_loadAll HO); exact rfl; exact rfl; (repeat (with_reducible (first | exact At.head _ | apply At.tail))); infer_instance; exact rfl; exact rfl; (simp only [Act.put, List.setIfInBounds_toArray, List.set_cons_succ, List.set_cons_zero])) | ((with_reducible apply wpList_loadOne HO); exact rfl; exact rfl; (repeat (with_reducible (first | exact At.head _ | apply At.tail))); exact rfl; infer_instance; exact rfl; (simp only [Act.put, List.setIfInBounds_toArray, List.set_cons_succ, List.set_cons_zero]))) | (go_at_call 7; go_must ((with_reducible refine (lined_any _).mono ?_); rintro e w ⟨rfl, hb⟩; replace HO := HO.call hb; clear hb)))
    go_ret
    exact ⟨rfl, HO.grown⟩
  by_cases h2 : (5000 : Int) < (s.size : Int)
  · go_enter Tryd.func4, Tryd.ntmps4
    go_wp2_with (first | (first | go_big_skip | ((with_reducible apply wpList_loadAll HO); exact rfl; exact rfl; (repeat (with_reducible (first | exact At.head _ | apply At.tail))); infer_instance; exact rfl; exact rfl; (simp only [Act.put, List.setIfInBounds_toArray, List.set_cons_succ, List.set_cons_zero])) | ((with_reducible apply wpList_loadOne HO); exact rfl; exact rfl; (repeat (with_reducible (first | exact At.head _ | apply At.tail))); exact rfl; infer_instance; exact rfl; (simp only [Act.put, List.setIfInBounds_toArray, List.set_cons_succ, List.set_cons_zero]))) | (go_at_call 7; go_must ((with_reducible refine (lined_any _).mono ?_); rintro e w ⟨rfl, hb⟩; replace HO := HO.call hb; clear hb)))
    go_ret
    exact ⟨rfl, HO.grown⟩
  go_enter Tryd.func4, Tryd.ntmps4
  go_wp2_with (first | (first | go_big_skip | ((with_reducible apply wpList_loadAll HO); exact rfl; exact rfl; (repeat (with_reducible (first | exact At.head _ | apply At.tail))); infer_instance; exact rfl; exact rfl; (simp only [Act.put, List.setIfInBounds_toArray, List.set_cons_succ, List.set_cons_zero])) | ((with_reducible apply wpList_loadOne HO); exact rfl; exact rfl; (repeat (with_reducible (first | exact At.head _ | apply At.tail))); exact rfl; infer_instance; exact rfl; (simp only [Act.put, List.setIfInBounds_toArray, List.set_cons_succ, List.set_cons_zero]))) | (go_at_call 10; go_must ((with_reducible refine (PA _ HO.grown).mono ?_); rintro e w ⟨p, c, rfl, HO1⟩; replace HO := HO.lift HO1; clear HO1; simp only [List.cons_append, List.nil_append] at HO)) | (go_at_call 11; go_must ((with_reducible refine (PB _ HO.grown).mono ?_); rintro e w ⟨p2, c2, rfl, HO1⟩; replace HO := HO.lift HO1; clear HO1; simp only [List.cons_append, List.nil_append] at HO)) | (go_at_call 12; go_must ((with_reducible refine (SM _ _ _ _ _ _ HO (by repeat (first | exact List.mem_cons_self | apply List.mem_cons_of_mem)) (by repeat (first | exact List.mem_cons_self | apply List.mem_cons_of_mem))).mono ?_); rintro e w ⟨rfl, hb⟩; replace HO := HO.call hb; clear hb)) | (go_at_call 7; go_must ((with_reducible refine (lined_any _).mono ?_); rintro e w ⟨rfl, hb⟩; replace HO := HO.call hb; clear hb)))
  go_ret
  exact ⟨rfl, HO.grown⟩
end Go.Proofs.YtklommbknfpolaaDoor

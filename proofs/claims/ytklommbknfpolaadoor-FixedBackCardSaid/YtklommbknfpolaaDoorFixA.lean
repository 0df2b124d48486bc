/-
  Which widths may be, and how long they are together, by walking the program's text and the document's; whether a field fits a width; conditions: the widths lie in memory.
-/
import Derived.Test.YtklommbknfpolaaDoorFixLaw
import Derived.Test.YtklommbknfpolaaDoorOwn5
import Derived.Test.YtklommbknfpolaaDoorTypes
namespace Go.Proofs.YtklommbknfpolaaDoor
open Go.RowKit Go.Own

theorem oldOne {α : Type} {W : World} {v : Value} {f : α → Value} {xs : List α} {p : Option Addr} {n c : Nat} (h : IsL W 1 v (xs.map fun x => [f x])) (e : v = .slice p n c) {j : Nat} (hj : j < xs.length) : ∃ a, p = some a ∧ ∀ w', Below W.heap.size W w' → w'.cell? (a.add j) = some (f xs[j]) := by
  obtain ⟨a, cap, h1, _, _, hR⟩ := h.at (by rw [List.length_map]; omega)
  rw [e] at h1
  cases h1
  refine ⟨a, rfl, fun w' hb => ?_⟩
  have := hR.c0 j (by simpa using hj) (f xs[j]) (by simp)
  rw [Nat.mul_one] at this
  rw [← this]
  exact hb.cell (by rw [lBlock]; exact hR.lt)
abbrev IsInts (W : World) (v : Value) (ws : List Int) : Prop := IsL W 1 v (ws.map fun n => [.int .i64 n])
abbrev strV (s : List UInt8) : Value := .string ⟨s.toArray⟩
abbrev IsStrs (W : World) (v : Value) (ss : List ByteArray) : Prop := IsL W 1 v (ss.map fun s => [.string s])
abbrev tx (s : ByteArray) : List UInt8 := s.data.toList
def inW (n : Int) : Bool := decide (1 ≤ n) && decide (n ≤ 1000)
theorem okW_eq (ws : List Int) : okW ws = (decide (ws.length ≤ 100) && ws.all inW) := rfl
theorem all_take {ws : List Int} {j : Nat} (hj : j < ws.length) : (ws.take (j + 1)).all inW = ((ws.take j).all inW && inW ws[j]) := by
  rw [List.take_succ_eq_append_getElem hj, List.all_append]
  simp
theorem sum_take {ws : List Int} {j : Nat} (hj : j < ws.length) : (ws.take (j + 1)).sum = (ws.take j).sum + ws[j] := by
  rw [List.take_succ_eq_append_getElem hj, List.sum_append]
  simp
theorem all_not {ws : List Int} {j : Nat} (hj : j < ws.length) (h : inW ws[j] = false) : ws.all inW = false := by
  rw [List.all_eq_false]
  exact ⟨_, List.getElem_mem hj, by simp [h]⟩
theorem sum_bound {ws : List Int} {j : Nat} (hj : j ≤ ws.length) (h100 : ws.length ≤ 100) (h : (ws.take j).all inW = true) : 0 ≤ (ws.take j).sum ∧ (ws.take j).sum ≤ 100000 := by
  have := okW_sum (ws := ws.take j) h
  rw [List.length_take] at this
  have h2 : ((min j ws.length : Nat) : Int) ≤ 100 := by omega
  omega
def sumOk (ws : List Int) : Int := if okW ws = true then ws.sum else 0
def sumRef (ws : List Int) : Int := if okW ws = true then ws.sum else -1
theorem okW_no {ws : List Int} (h : okW ws = false) : okW ws = false ∧ sumOk ws = 0 ∧ sumRef ws = -1 := ⟨h, by simp [sumOk, h], by simp [sumRef, h]⟩
theorem okW_yes {ws : List Int} (h : okW ws = true) : okW ws = true ∧ sumOk ws = ws.sum ∧ sumRef ws = ws.sum := ⟨h, by simp [sumOk, h], by simp [sumRef, h]⟩
set_option maxHeartbeats 8000000 in
set_option maxRecDepth 100000 in
theorem may_any {W : World} {v : Value} {ws : List Int} (h : IsInts W v ws) : Calls Tryd.prog 14 #[v] W fun e w' => e = .returned (.tuple #[.int .i64 (sumOk ws), .bool (okW ws)]) ∧ Below W.heap.size W w' := by
  have HH := Lib.hid h
  obtain ⟨sp, sc, rfl, hmx⟩ := h.slice
  rw [List.length_map] at hmx ⊢
  rw [List.length_map] at HH
  have HO := Own.start W
  clear h
  by_cases h100 : 100 < ws.length
  · have HQ := Lib.hid (okW_no (show okW ws = false by rw [okW_eq]; simp; omega))
    have hI : (100 : Int) < (ws.length : Int) := by omega
    go_enter Tryd.func14, Tryd.ntmps14
    go_wp2_with fail
    refine bodyPost_ret (v := .tuple #[.int .i64 0, .bool false]) ?_ rfl ?_
    · (simp only [results, Tryd.results14]; go_simp)
    rw [HQ.out.1, HQ.out.2.1]
    exact ⟨rfl, HO.grown⟩
  have hI : ¬ (100 : Int) < (ws.length : Int) := by omega
  go_enter Tryd.func14, Tryd.ntmps14
  go_wp2_with fail
  go_loopw [2, 11] (fun s i wr => ∃ j : Nat, j ≤ ws.length ∧ i = .int .i64 (j : Int) ∧ s = .int .i64 (ws.take j).sum ∧ (ws.take j).all inW = true ∧ Own W wr []) (fun _ i _ => ws.length - (intOf i).toNat)
  case atStart => exact ⟨0, by omega, rfl, rfl, rfl, HO⟩
  case round =>
    clear HO
    obtain ⟨j, hj, rfl, rfl, hall, HO⟩ := hrel
    by_cases hjl : j < ws.length
    · have hjI : (j : Int) < (ws.length : Int) := by omega
      obtain ⟨a, rfl, hst⟩ := oldOne HH.out rfl hjl
      replace hst := Lib.hid hst
      have HA := Lib.hid (all_take hjl)
      have HS := Lib.hid (sum_take hjl)
      have HN := Lib.hid (fun (h : inW ws[j] = false) => all_not hjl h)
      have hb1 := sum_bound (Nat.le_of_lt hjl) (by omega) hall
      have HL := Lib.hid hall
      clear hall
      generalize ws[j] = n at *
      generalize hs0 : (ws.take j).sum = s0 at *
      replace hs0 := Lib.hid hs0
      by_cases h1 : n < 1
      · have HQ := Lib.hid (okW_no (show okW ws = false by rw [okW_eq, HN.out (by simp [inW]; omega)]; simp))
        go_wp2_with (first | (first | go_big_skip | ((with_reducible apply wpList_loadAll HO); exact rfl; exact rfl; (repeat (with_reducible (first | exact At.head _ | apply At.tail))); infer_instance; exact rfl; exact rfl; (simp only [Act.put, List.setIfInBounds_toArray, List.set_cons_succ, List.set_cons_zero])) | ((with_reducible apply wpList_loadOne HO); exact rfl; exact rfl; (repeat (with_reducible (first | exact At.head _ | apply At.tail))); exact rfl; infer_instance; exact rfl; (simp only [Act.put, List.setIfInBounds_toArray, List.set_cons_succ, List.set_cons_zero]))) | ((with_reducible apply wpList_loadAt1 HO); exact rfl; exact rfl; exact (fun w' h1 => hst.out w' h1.grown); infer_instance; exact rfl; (simp only [Act.put, List.setIfInBounds_toArray, List.set_cons_succ, List.set_cons_zero])))
        refine bodyPost_ret (v := .tuple #[.int .i64 0, .bool false]) ?_ rfl ?_
        · (simp only [results, Tryd.results14]; go_simp)
        rw [HQ.out.1, HQ.out.2.1]
        exact ⟨rfl, HO.grown⟩
      by_cases h2 : 1000 < n
      · have HQ := Lib.hid (okW_no (show okW ws = false by rw [okW_eq, HN.out (by simp [inW]; omega)]; simp))
        go_wp2_with (first | (first | go_big_skip | ((with_reducible apply wpList_loadAll HO); exact rfl; exact rfl; (repeat (with_reducible (first | exact At.head _ | apply At.tail))); infer_instance; exact rfl; exact rfl; (simp only [Act.put, List.setIfInBounds_toArray, List.set_cons_succ, List.set_cons_zero])) | ((with_reducible apply wpList_loadOne HO); exact rfl; exact rfl; (repeat (with_reducible (first | exact At.head _ | apply At.tail))); exact rfl; infer_instance; exact rfl; (simp only [Act.put, List.setIfInBounds_toArray, List.set_cons_succ, List.set_cons_zero]))) | ((with_reducible apply wpList_loadAt1 HO); exact rfl; exact rfl; exact (fun w' h1 => hst.out w' h1.grown); infer_instance; exact rfl; (simp only [Act.put, List.setIfInBounds_toArray, List.set_cons_succ, List.set_cons_zero])))
        refine bodyPost_ret (v := .tuple #[.int .i64 0, .bool false]) ?_ rfl ?_
        · (simp only [results, Tryd.results14]; go_simp)
        rw [HQ.out.1, HQ.out.2.1]
        exact ⟨rfl, HO.grown⟩
      have hwr : IntKind.i64.wrap (s0 + n) = s0 + n := by rw [IntKind.wrap_i64]; omega
      go_wp2_with (first | (first | go_big_skip | ((with_reducible apply wpList_loadAll HO); exact rfl; exact rfl; (repeat (with_reducible (first | exact At.head _ | apply At.tail))); infer_instance; exact rfl; exact rfl; (simp only [Act.put, List.setIfInBounds_toArray, List.set_cons_succ, List.set_cons_zero])) | ((with_reducible apply wpList_loadOne HO); exact rfl; exact rfl; (repeat (with_reducible (first | exact At.head _ | apply At.tail))); exact rfl; infer_instance; exact rfl; (simp only [Act.put, List.setIfInBounds_toArray, List.set_cons_succ, List.set_cons_zero]))) | ((with_reducible apply wpList_loadAt1 HO); exact rfl; exact rfl; exact (fun w' h1 => hst.out w' h1.grown); infer_instance; exact rfl; (simp only [Act.put, List.setIfInBounds_toArray, List.set_cons_succ, List.set_cons_zero])))
      go_roundw
      case rel => exact ⟨j + 1, by omega, by go_num, by rw [HS.out], by rw [HA.out, HL.out]; simp [inW]; omega, HO⟩
      case measure => simp [intOf] <;> omega
    obtain rfl : j = ws.length := by omega
    rw [List.take_length] at hall ⊢
    have HQ := Lib.hid (okW_yes (show okW ws = true by rw [okW_eq, hall]; simp; omega))
    clear hall
    generalize ws.sum = s0 at *
    go_wp2_with fail
    refine bodyPost_ret (v := .tuple #[.int .i64 s0, .bool true]) ?_ rfl ?_
    · (simp only [results, Tryd.results14]; go_simp)
    rw [HQ.out.1, HQ.out.2.1]
    exact ⟨rfl, HO.grown⟩
set_option maxHeartbeats 8000000 in
set_option maxRecDepth 100000 in
theorem all_any {W : World} {v : Value} {ws : List Int} (h : IsInts W v ws) : Calls Tryd.prog 21 #[v] W fun e w' => e = .returned (.int .i64 (sumRef ws)) ∧ Below W.heap.size W w' := by
  have HH := Lib.hid h
  obtain ⟨sp, sc, rfl, hmx⟩ := h.slice
  rw [List.length_map] at hmx ⊢
  rw [List.length_map] at HH
  have HO := Own.start W
  clear h
  by_cases h100 : 100 < ws.length
  · have HQ := Lib.hid (okW_no (show okW ws = false by rw [okW_eq]; simp; omega))
    have hI : (100 : Int) < (ws.length : Int) := by omega
    go_enter Tryd.func21, Tryd.ntmps21
    go_wp2_with fail
    go_ret
    rw [HQ.out.2.2]
    exact ⟨rfl, HO.grown⟩
  have hI : ¬ (100 : Int) < (ws.length : Int) := by omega
  go_enter Tryd.func21, Tryd.ntmps21
  go_wp2_with fail
  go_loopw [3, 4] (fun s i wr => ∃ j : Nat, j ≤ ws.length ∧ i = .int .i64 (j : Int) ∧ s = .int .i64 (ws.take j).sum ∧ (ws.take j).all inW = true ∧ Own W wr []) (fun _ i _ => ws.length - (intOf i).toNat)
  case atStart => exact ⟨0, by omega, rfl, rfl, rfl, HO⟩
  case round =>
    clear HO
    obtain ⟨j, hj, rfl, rfl, hall, HO⟩ := hrel
    by_cases hjl : j < ws.length
    · have hjI : (j : Int) < (ws.length : Int) := by omega
      obtain ⟨a, rfl, hst⟩ := oldOne HH.out rfl hjl
      replace hst := Lib.hid hst
      have HA := Lib.hid (all_take hjl)
      have HS := Lib.hid (sum_take hjl)
      have HN := Lib.hid (fun (h : inW ws[j] = false) => all_not hjl h)
      have hb1 := sum_bound (Nat.le_of_lt hjl) (by omega) hall
      have HL := Lib.hid hall
      clear hall
      generalize ws[j] = n at *
      generalize hs0 : (ws.take j).sum = s0 at *
      replace hs0 := Lib.hid hs0
      by_cases h1 : n < 1
      · have HQ := Lib.hid (okW_no (show okW ws = false by rw [okW_eq, HN.out (by simp [inW]; omega)]; simp))
        go_wp2_with (first | (first | go_big_skip | ((with_reducible apply wpList_loadAll HO); exact rfl; exact rfl; (repeat (with_reducible (first | exact At.head _ | apply At.tail))); infer_instance; exact rfl; exact rfl; (simp only [Act.put, List.setIfInBounds_toArray, List.set_cons_succ, List.set_cons_zero])) | ((with_reducible apply wpList_loadOne HO); exact rfl; exact rfl; (repeat (with_reducible (first | exact At.head _ | apply At.tail))); exact rfl; infer_instance; exact rfl; (simp only [Act.put, List.setIfInBounds_toArray, List.set_cons_succ, List.set_cons_zero]))) | ((with_reducible apply wpList_loadAt1 HO); exact rfl; exact rfl; exact (fun w' h1 => hst.out w' h1.grown); infer_instance; exact rfl; (simp only [Act.put, List.setIfInBounds_toArray, List.set_cons_succ, List.set_cons_zero])))
        go_ret
        rw [HQ.out.2.2]
        exact ⟨rfl, HO.grown⟩
      by_cases h2 : 1000 < n
      · have HQ := Lib.hid (okW_no (show okW ws = false by rw [okW_eq, HN.out (by simp [inW]; omega)]; simp))
        go_wp2_with (first | (first | go_big_skip | ((with_reducible apply wpList_loadAll HO); exact rfl; exact rfl; (repeat (with_reducible (first | exact At.head _ | apply At.tail))); infer_instance; exact rfl; exact rfl; (simp only [Act.put, List.setIfInBounds_toArray, List.set_cons_succ, List.set_cons_zero])) | ((with_reducible apply wpList_loadOne HO); exact rfl; exact rfl; (repeat (with_reducible (first | exact At.head _ | apply At.tail))); exact rfl; infer_instance; exact rfl; (simp only [Act.put, List.setIfInBounds_toArray, List.set_cons_succ, List.set_cons_zero]))) | ((with_reducible apply wpList_loadAt1 HO); exact rfl; exact rfl; exact (fun w' h1 => hst.out w' h1.grown); infer_instance; exact rfl; (simp only [Act.put, List.setIfInBounds_toArray, List.set_cons_succ, List.set_cons_zero])))
        go_ret
        rw [HQ.out.2.2]
        exact ⟨rfl, HO.grown⟩
      have hwr : IntKind.i64.wrap (s0 + n) = s0 + n := by rw [IntKind.wrap_i64]; omega
      go_wp2_with (first | (first | go_big_skip | ((with_reducible apply wpList_loadAll HO); exact rfl; exact rfl; (repeat (with_reducible (first | exact At.head _ | apply At.tail))); infer_instance; exact rfl; exact rfl; (simp only [Act.put, List.setIfInBounds_toArray, List.set_cons_succ, List.set_cons_zero])) | ((with_reducible apply wpList_loadOne HO); exact rfl; exact rfl; (repeat (with_reducible (first | exact At.head _ | apply At.tail))); exact rfl; infer_instance; exact rfl; (simp only [Act.put, List.setIfInBounds_toArray, List.set_cons_succ, List.set_cons_zero]))) | ((with_reducible apply wpList_loadAt1 HO); exact rfl; exact rfl; exact (fun w' h1 => hst.out w' h1.grown); infer_instance; exact rfl; (simp only [Act.put, List.setIfInBounds_toArray, List.set_cons_succ, List.set_cons_zero])))
      go_roundw
      case rel => exact ⟨j + 1, by omega, by go_num, by rw [HS.out], by rw [HA.out, HL.out]; simp [inW]; omega, HO⟩
      case measure => simp [intOf] <;> omega
    obtain rfl : j = ws.length := by omega
    rw [List.take_length] at hall ⊢
    have HQ := Lib.hid (okW_yes (show okW ws = true by rw [okW_eq, hall]; simp; omega))
    clear hall
    generalize ws.sum = s0 at *
    go_wp2_with fail
    go_ret
    rw [HQ.out.2.2]
    exact ⟨rfl, HO.grown⟩
end Go.Proofs.YtklommbknfpolaaDoor

/-
  The books as a piece of memory; what they tell, by walking the program's text; conditions: int64 numbers.
-/
import Derived.Test.YthiokpjakiidjaaBkM
import Derived.Shelf.SlMaps.Clone
namespace Go.Proofs.Ythiokpjakiidjaa
open Go.RowKit Go.Own Go.Maps

theorem postedEql (w : World) (p : Option Nat) : (binOp .eql 43 (.map p) (.map none)).run Try.prog w = .ok (.bool p.isNone) w := run_eql_map_nil_sl w _ _ _ p Try.underlying43
def idOk (l : List Pst) (f : Lit → Option Value) : Prop := ∀ s : ByteArray, s.size ≤ maxLen → f (.string s.data.toList) = (findP l s).map pstV
def BalOk (l : List Pst) (g : Lit → Option Value) : Prop := ∀ n o, inI n = true → inI o = true → (g (slotLit n o)).getD (.int .i64 0) = .int .i64 (bal l n o)
def idE (b : Nat) (l : List Pst) : Ent := ⟨[b], fun w => ∃ n f, (mapE Try.prog 9 b n f).F w ∧ n ≤ l.length ∧ idOk l f⟩
def balE (b : Nat) (l : List Pst) : Ent := ⟨[b], fun w => ∃ n g, (mapE Try.prog 55 b n g).F w ∧ n ≤ 4 * l.length ∧ BalOk l g⟩
theorem idE_ok (b : Nat) (l : List Pst) : (idE b l).Ok := fun w w' h ⟨n, f, hF, h2⟩ => ⟨n, f, mapE_ok _ _ _ _ _ w w' h hF, h2⟩
theorem balE_ok (b : Nat) (l : List Pst) : (balE b l).Ok := fun w w' h ⟨n, f, hF, h2⟩ => ⟨n, f, mapE_ok _ _ _ _ _ w w' h hF, h2⟩
theorem Own.idOpen {W w : World} {L : List Ent} {b : Nat} {l : List Pst} {L' : Nat → (Lit → Option Value) → List Ent} (hO : Own W w L) (hat : ∀ n f, At (idE b l) (mapE Try.prog 9 b n f) L (L' n f)) : ∃ n f, n ≤ l.length ∧ idOk l f ∧ Own W w (L' n f) := by
  obtain ⟨n, f, hF, h1, h2⟩ := hO.has _ (hat 0 (fun _ => none)).mem
  exact ⟨n, f, h1, h2, hO.as (hat n f) (mapE_ok _ _ _ _ _) (fun _ => hF) (fun _ hb => hb)⟩
theorem Own.idClose {W w : World} {L L' : List Ent} {b n : Nat} {f : Lit → Option Value} {l : List Pst} (hO : Own W w L) (hat : At (mapE Try.prog 9 b n f) (idE b l) L L') (h1 : n ≤ l.length) (h2 : idOk l f) : Own W w L' :=
  hO.as hat (idE_ok _ _) (fun hF => ⟨n, f, hF, h1, h2⟩) (fun _ hb => hb)
theorem Own.balOpen {W w : World} {L : List Ent} {b : Nat} {l : List Pst} {L' : Nat → (Lit → Option Value) → List Ent} (hO : Own W w L) (hat : ∀ n f, At (balE b l) (mapE Try.prog 55 b n f) L (L' n f)) : ∃ n f, n ≤ 4 * l.length ∧ BalOk l f ∧ Own W w (L' n f) := by
  obtain ⟨n, f, hF, h1, h2⟩ := hO.has _ (hat 0 (fun _ => none)).mem
  exact ⟨n, f, h1, h2, hO.as (hat n f) (mapE_ok _ _ _ _ _) (fun _ => hF) (fun _ hb => hb)⟩
theorem Own.balClose {W w : World} {L L' : List Ent} {b n : Nat} {f : Lit → Option Value} {l : List Pst} (hO : Own W w L) (hat : At (mapE Try.prog 55 b n f) (balE b l) L L') (h1 : n ≤ 4 * l.length) (h2 : BalOk l f) : Own W w L' :=
  hO.as hat (balE_ok _ _) (fun hF => ⟨n, f, hF, h1, h2⟩) (fun _ hb => hb)
def bkPs (b : Nat) (v : Value) (pm bm : Nat) (l : List Pst) : List Ent := [box b (.cells [v, .map (some pm), .map (some bm)].toArray 46), row 30 5 v (l.map pstC), idE pm l, balE bm l]
def bkE (b : Nat) (v : Value) (pm bm : Nat) (l : List Pst) : Ent := joinE (bkPs b v pm bm l)
/-- What is known of books in a world. -/
structure BkAt (w : World) (b : Nat) (v : Value) (pm bm : Nat) (l : List Pst) : Prop where
  box : w.heap[b]? = some (.cells [v, .map (some pm), .map (some bm)].toArray 46)
  row : (row 30 5 v (l.map pstC)).F w
  ids : (idE pm l).F w
  bals : (balE bm l).F w
theorem Own.bkAt {W w : World} {L L' : List Ent} {b : Nat} {v : Value} {pm bm : Nat} {l : List Pst} (hO : Own W w L) (hat : At (bkE b v pm bm l) (bkE b v pm bm l) L L') : BkAt w b v pm bm l := by
  obtain ⟨h, _⟩ := hO.has _ hat.mem
  exact ⟨h _ (.head _), h _ (.tail _ (.head _)), h _ (.tail _ (.tail _ (.head _))), h _ (.tail _ (.tail _ (.tail _ (.head _))))⟩
theorem old_cell {w : World} {b : Nat} {cs : List Value} {T : TypeId} (h : w.heap[b]? = some (.cells cs.toArray T)) (i : Nat) {v : Value} (hv : cs[i]? = some v) : w.cell? ⟨b, i, none⟩ = some v := by rw [cellAt h, hv]
theorem old_lt {w : World} {b : Nat} {o : Obj} (h : w.heap[b]? = some o) : b < w.heap.size := lt_of_block h

set_option maxHeartbeats 4000000 in
theorem bkNone_any {w : World} {b : Nat} {v : Value} {pm bm : Nat} (h : w.heap[b]? = some (.cells [v, .map (some pm), .map (some bm)].toArray 46)) : Calls Try.prog 21 #[.pointer (some ⟨b, 0, none⟩)] w fun e w' => e = .returned (.bool false) ∧ Below w.heap.size w w' := by
  have HO := Own.start w
  have h1 := old_cell h 1 rfl
  have hlt := old_lt h
  have hq := fun w => postedEql w (some pm)
  clear h
  go_enter Try.func21, Try.ntmps21
  go_wp2_with (first | go_big_skip | ((with_reducible apply wpList_loadOld1 HO); exact rfl; exact rfl; exact hlt; exact h1; infer_instance; exact rfl; (simp only [Act.put, List.setIfInBounds_toArray, List.set_cons_succ, List.set_cons_zero])))
  go_ret
  exact ⟨rfl, HO.grown⟩

set_option maxHeartbeats 4000000 in
theorem bkNoneNil_any (w : World) : Calls Try.prog 21 #[.pointer none] w fun e w' => e = .returned (.bool true) ∧ Below w.heap.size w w' := by
  have HO := Own.start w
  go_enter Try.func21, Try.ntmps21
  go_wp2_with fail
  go_ret
  exact ⟨rfl, HO.grown⟩

set_option maxHeartbeats 4000000 in
theorem bkNoneNo_any {w : World} {b : Nat} {v : Value} (h : w.heap[b]? = some (.cells [v, .map none, .map none].toArray 46)) : Calls Try.prog 21 #[.pointer (some ⟨b, 0, none⟩)] w fun e w' => e = .returned (.bool true) ∧ Below w.heap.size w w' := by
  have HO := Own.start w
  have h1 := old_cell h 1 rfl
  have hlt := old_lt h
  have hq := fun w => postedEql w none
  clear h
  go_enter Try.func21, Try.ntmps21
  go_wp2_with (first | go_big_skip | ((with_reducible apply wpList_loadOld1 HO); exact rfl; exact rfl; exact hlt; exact h1; infer_instance; exact rfl; (simp only [Act.put, List.setIfInBounds_toArray, List.set_cons_succ, List.set_cons_zero])))
  go_ret
  exact ⟨rfl, HO.grown⟩

set_option maxHeartbeats 4000000 in
theorem bkBal_any {w : World} {b : Nat} {v : Value} {pm bm : Nat} {l : List Pst} (h : BkAt w b v pm bm l) {n o : Int} (hn : inI n = true) (ho : inI o = true) : Calls Try.prog 13 #[.pointer (some ⟨b, 0, none⟩), .int .i64 n, .int .i64 o] w fun e w' => e = .returned (.int .i64 (bal l n o)) ∧ Below w.heap.size w w' := by
  have HO := Own.start w
  have N := bkNone_any h.box
  obtain ⟨k, g, hF, -, hg⟩ := h.bals
  have hg := hg n o hn ho
  have hk := slotOf_lit hn ho
  have h2 := old_cell h.box 2 rfl
  have hlt := old_lt h.box
  clear h
  go_enter Try.func13, Try.ntmps13
  go_wp2_with (first | go_big_skip | ((with_reducible apply wpList_loadOld1 HO); exact rfl; exact rfl; exact hlt; exact h2; infer_instance; exact rfl; (simp only [Act.put, List.setIfInBounds_toArray, List.set_cons_succ, List.set_cons_zero])) | (go_at_call 21; go_must ((with_reducible refine (N).mono ?_); rintro e w ⟨rfl, hb⟩; replace HO := HO.call hb; clear hb)) | ((with_reducible apply wpList_mapLook0Old HO (kt := 55) (et := 2)); exact rfl; exact rfl; exact rfl; exact hF; exact slotKeyed; exact Try.underlying44; infer_instance; exact hk; exact hg; exact rfl; (simp only [Act.put, List.setIfInBounds_toArray, List.set_cons_succ, List.set_cons_zero])))
  go_ret
  exact ⟨rfl, HO.grown⟩
theorem BkAt.below {w w' : World} {b : Nat} {v : Value} {pm bm : Nat} {l : List Pst} (h : BkAt w b v pm bm l) (hb : Below w.heap.size w w') : BkAt w' b v pm bm l := by
  have e : ∀ b, b < w.heap.size → w'.heap[b]? = w.heap[b]? := fun b hb' => hb.block b hb'
  have hi : pm < w.heap.size := by obtain ⟨n, f, ⟨D, hD, _⟩, _⟩ := h.ids; exact hD.lt
  have hbm : bm < w.heap.size := by obtain ⟨n, f, ⟨D, hD, _⟩, _⟩ := h.bals; exact hD.lt
  exact ⟨by rw [e b (old_lt h.box)]; exact h.box, row_ok _ _ _ _ w w' (fun c hc => e c (row_lt _ _ _ _ w h.row c hc)) h.row, idE_ok _ _ w w' (fun c hc => e c (by rw [List.mem_singleton.1 hc]; exact hi)) h.ids, balE_ok _ _ w w' (fun c hc => e c (by rw [List.mem_singleton.1 hc]; exact hbm)) h.bals⟩

set_option maxHeartbeats 4000000 in
theorem bkMany_any {w : World} {b : Nat} {v : Value} {pm bm : Nat} {l : List Pst} (h : BkAt w b v pm bm l) : Calls Try.prog 15 #[.pointer (some ⟨b, 0, none⟩)] w fun e w' => e = .returned (.int .i64 (l.length : Int)) ∧ Below w.heap.size w w' := by
  have HO := Own.start w
  have N := bkNone_any h.box
  have hv : ∃ p c, v = .slice p l.length c := by
    rcases h.row.2 with ⟨rfl, h0⟩ | ⟨g, cap, cur, rfl, _⟩
    · exact ⟨_, _, by rw [List.length_map] at h0; rw [h0]⟩
    · exact ⟨_, _, by rw [List.length_map]⟩
  obtain ⟨p, c, rfl⟩ := hv
  have h0 := old_cell h.box 0 rfl
  have hlt := old_lt h.box
  clear h
  go_enter Try.func15, Try.ntmps15
  go_wp2_with (first | go_big_skip | ((with_reducible apply wpList_loadOld1 HO); exact rfl; exact rfl; exact hlt; exact h0; infer_instance; exact rfl; (simp only [Act.put, List.setIfInBounds_toArray, List.set_cons_succ, List.set_cons_zero])) | (go_at_call 21; go_must ((with_reducible refine (N).mono ?_); rintro e w ⟨rfl, hb⟩; replace HO := HO.call hb; clear hb)))
  go_ret
  exact ⟨rfl, HO.grown⟩

def sumB (l : List Pst) : Nat → Int
  | 0 => 0
  | k + 1 => sumB l k + bal l (k : Int) 0
theorem sumB_zero {l : List Pst} (h : ∀ p ∈ l, mayPst p = true) : sumB l 5 = 0 := by
  induction l with
  | nil => rfl
  | cons p l ih =>
    have hm := mayPst_iff.1 (h p (by simp))
    have e : ∀ k, sumB (p :: l) k = sumB [p] k + sumB l k := fun k => by
      induction k with
      | zero => rfl
      | succ k ih => simp only [sumB, ih, bal]; omega
    rw [e, ih (fun q hq => h q (by simp [hq]))]
    simp only [sumB, bal, delta, ne_eq, not_true_eq_false, false_and, if_false]
    have hd : p.d = 0 ∨ p.d = 1 ∨ p.d = 2 ∨ p.d = 3 ∨ p.d = 4 := by omega
    have hc : p.c = 0 ∨ p.c = 1 ∨ p.c = 2 ∨ p.c = 3 ∨ p.c = 4 := by omega
    have hne := hm.2.2.2.2.2.2.1
    rcases hd with hd | hd | hd | hd | hd <;> rcases hc with hc | hc | hc | hc | hc <;> simp [hd, hc] at hne ⊢ <;> omega

set_option maxHeartbeats 8000000 in
set_option maxRecDepth 100000 in
theorem bkZero_any {W : World} {b : Nat} {v : Value} {pm bm : Nat} {l : List Pst} (h : BkAt W b v pm bm l) (hm : ∀ p ∈ l, mayPst p = true) : Calls Try.prog 14 #[.pointer (some ⟨b, 0, none⟩)] W fun e w' => e = .returned (.bool true) ∧ Below W.heap.size W w' := by
  have HO := Own.start W
  have N := bkNone_any h.box
  have HB := Lib.hid h
  have HM := Lib.hid (sumB_zero hm)
  clear h hm
  go_enter Try.func14, Try.ntmps14
  go_wp2_with (first | (go_at_call 21; go_must ((with_reducible refine (N).mono ?_); rintro e w ⟨rfl, hb⟩; replace HO := HO.call hb; clear hb)))
  go_loopw [3, 4] (fun s i wr => ∃ j : Nat, j ≤ 5 ∧ i = .int .i64 (j : Int) ∧ s = .int .i64 (IntKind.i64.wrap (sumB l j)) ∧ Own W wr []) (fun _ i _ => 5 - (intOf i).toNat)
  case atStart => exact ⟨0, by omega, rfl, rfl, HO⟩
  case round =>
    clear HO
    obtain ⟨j, hj, rfl, rfl, HO⟩ := hrel
    by_cases hj5 : j < 5
    · have hjI : (j : Int) ≤ 4 := by omega
      have B := bkBal_any (HB.out.below HO.grown) (n := (j : Int)) (o := 0) (inI_iff.2 (by omega)) rfl
      have e : IntKind.i64.wrap (IntKind.i64.wrap (sumB l j) + bal l (j : Int) 0) = IntKind.i64.wrap (sumB l (j + 1)) := by
        simp only [sumB, IntKind.wrap_i64]; omega
      generalize IntKind.i64.wrap (sumB l j) = s0 at *
      generalize bal l (j : Int) 0 = t0 at *
      go_wp2_with (first | (go_at_call 13; go_must ((with_reducible refine (B).mono ?_); rintro e w ⟨rfl, hb⟩; replace HO := HO.call hb; clear hb)))
      go_roundw
      case rel => exact ⟨j + 1, by omega, by go_num, by rw [IntKind.wrap_i64, wrap64], HO⟩
      case measure => simp [intOf] <;> omega
    · obtain rfl : j = 5 := by omega
      rw [HM.out] at *
      go_wp2_with fail
      go_ret
      exact ⟨rfl, HO.grown⟩
end Go.Proofs.Ythiokpjakiidjaa

/-
  Since when orders have suspense, entry by entry; plain.
  Which entries are too great, by walking the law's text; conditions: texts no longer than memory bears.
  Entries that came in, and which of them are too great, by walking the law's text; conditions: the entries lie in memory.
  AgingSince, by walking the law's text; conditions: the entries lie in memory, the laid tables.
  Entries that came in, opened; conditions: none.
  sum 37e90d274fb59569eaa4743a47dceecfb37d56e3
-/
import Derived.Deep.Slices
import Derived.Test.YtibabfedpdoofaaDoorPt11
import Derived.Test.YtibabfedpdoofaaDoorPt12
import Derived.Test.YtibabfedpdoofaaDoorPt13
namespace Go.Proofs.YtibabfedpdoofaaDoor

theorem seeL_prefix (ls : List LineS) (now : Int) (P : List Pst) (m : Nat) : ∀ n, m ≤ n → ∃ r, seeL ls now P n = seeL ls now P m ++ r
  | 0, h => ⟨[], by obtain rfl : m = 0 := by omega
                    simp⟩
  | n + 1, h => by
    by_cases hm : m = n + 1
    · subst hm; exact ⟨[], by simp⟩
    · obtain ⟨r, hr⟩ := seeL_prefix ls now P m n (by omega)
      exact ⟨r ++ (if bal P 1 ((n : Int) + 1) = 0 then [] else [⟨(n : Int) + 1, sinceOf ls now ((n : Int) + 1), bal P 1 ((n : Int) + 1)⟩]), by rw [seeL, hr, List.append_assoc]⟩
/-- The line that stands where the order m + 1 is looked for. -/
theorem seeL_at {ls : List LineS} {now : Int} {P : List Pst} {m n : Nat} (h : m < n) (hb : bal P 1 ((m : Int) + 1) ≠ 0) : (seeL ls now P n)[(seeL ls now P m).length]? = some ⟨(m : Int) + 1, sinceOf ls now ((m : Int) + 1), bal P 1 ((m : Int) + 1)⟩ := by
  obtain ⟨r, hr⟩ := seeL_prefix ls now P (m + 1) n (by omega)
  rw [hr, seeL, if_neg hb, List.append_assoc, List.getElem?_append_right (Nat.le_refl _), Nat.sub_self]
  rfl
theorem seeL_step_len {ls : List LineS} {now : Int} {P : List Pst} {m : Nat} : (seeL ls now P (m + 1)).length = (seeL ls now P m).length + (if bal P 1 ((m : Int) + 1) = 0 then 0 else 1) := by
  rw [seeL, List.length_append]
  split <;> rfl
theorem seeL_find (ls : List LineS) (now : Int) (P : List Pst) (id : Nat) (h1 : 1 ≤ id) : ∀ n, (seeL ls now P n).find? (fun x => decide (x.o = (id : Int))) = if id ≤ n ∧ bal P 1 (id : Int) ≠ 0 then some ⟨(id : Int), sinceOf ls now (id : Int), bal P 1 (id : Int)⟩ else none
  | 0 => by rw [if_neg (by omega)]; rfl
  | n + 1 => by
    have hf : (if bal P 1 ((n : Int) + 1) = 0 then ([] : List LineS) else [⟨(n : Int) + 1, sinceOf ls now ((n : Int) + 1), bal P 1 ((n : Int) + 1)⟩]).find? (fun x => decide (x.o = (id : Int))) = if id = n + 1 ∧ bal P 1 (id : Int) ≠ 0 then some ⟨(id : Int), sinceOf ls now (id : Int), bal P 1 (id : Int)⟩ else none := by
      by_cases hb : bal P 1 ((n : Int) + 1) = 0
      · simp only [hb, if_true, List.find?_nil]
        rw [if_neg]
        rintro ⟨rfl, h⟩
        exact h (by simpa using hb)
      · simp only [hb, if_false]
        by_cases h3 : id = n + 1
        · subst h3
          rw [List.find?_cons_of_pos (by simp), if_pos ⟨rfl, by simpa using hb⟩]
          simp
        · rw [List.find?_cons_of_neg (by simp; omega), if_neg (fun h => h3 h.1)]
          rfl
    rw [seeL, List.find?_append, seeL_find ls now P id h1 n, hf]
    by_cases hb : bal P 1 (id : Int) = 0
    · rw [if_neg (fun h => h.2 hb), if_neg (fun h => h.2 hb), if_neg (fun h => h.2 hb)]; rfl
    · by_cases h2 : id ≤ n
      · rw [if_pos ⟨h2, hb⟩, Option.some_or, if_pos ⟨by omega, hb⟩]
      · rw [if_neg (fun h => h2 h.1), Option.none_or]
        by_cases h3 : id = n + 1
        · rw [if_pos ⟨h3, hb⟩, if_pos ⟨by omega, hb⟩]
        · rw [if_neg (fun h => h3 h.1), if_neg (fun h => by omega)]
theorem stepLen (S : CoS) (A : InS) (x : EntS) : S.L.length ≤ (applyS S A x).L.length := by
  unfold applyS
  split
  · show _ ≤ (placeL S.L x.ord).length
    unfold placeL
    split <;> simp
  split
  · show _ ≤ (stopL S.L x.o).length
    unfold stopL
    split
    · exact Nat.le_refl _
    · split
      · exact Nat.le_refl _
      · simp [sagAt]
  split
  · unfold replyS
    split
    · exact Nat.le_refl _
    · split
      · exact Nat.le_refl _
      · simp [sagAt]
  split
  · split <;> exact Nat.le_refl _
  · exact Nat.le_refl _
/-- The lines behind so many entries, each looked at with its own tick. -/
def agL (xs : List EntS) : Nat → List LineS
  | 0 => []
  | i + 1 => seeL (agL xs i) ((i : Int) + 1) (coreOf (xs.take (i + 1))).1.P (coreOf (xs.take (i + 1))).1.L.length
/-- Since when, as the law has it. -/
def svF (xs : List EntS) : Nat → Nat → Int
  | 0, _ => 0
  | i + 1, id => if 1 ≤ id ∧ id ≤ (coreOf (xs.take (i + 1))).1.L.length then (if bal (coreOf (xs.take (i + 1))).1.P 1 (id : Int) = 0 then 0 else if svF xs i id = 0 then (i : Int) + 1 else svF xs i id) else svF xs i id
theorem svF_eq (xs : List EntS) : ∀ i, i ≤ xs.length → ∀ id, 1 ≤ id → svF xs i id = (match (agL xs i).find? (fun x => decide (x.o = (id : Int))) with | some x => x.s | none => 0) ∧ (∀ x, (agL xs i).find? (fun x => decide (x.o = (id : Int))) = some x → 1 ≤ x.s)
  | 0, _, id, _ => ⟨rfl, fun x h => by cases h⟩
  | i + 1, hi, id, h1 => by
    obtain ⟨ih, ih2⟩ := svF_eq xs i (by omega) id h1
    have hs : sinceOf (agL xs i) ((i : Int) + 1) (id : Int) = (if svF xs i id = 0 then (i : Int) + 1 else svF xs i id) ∧ 0 ≤ svF xs i id := by
      unfold sinceOf
      rcases hf : (agL xs i).find? (fun x => decide (x.o = (id : Int))) with _ | x
      · rw [hf] at ih
        rw [hf, ih]
        exact ⟨rfl, by decide⟩
      · rw [hf] at ih
        have := ih2 x hf
        rw [hf, ih]
        simp only
        rw [if_neg (by omega)]
        exact ⟨rfl, by omega⟩
    rw [agL, seeL_find _ _ _ id h1, svF]
    by_cases hn : id ≤ (coreOf (xs.take (i + 1))).1.L.length
    · rw [if_pos ⟨h1, hn⟩]
      by_cases hb : bal (coreOf (xs.take (i + 1))).1.P 1 (id : Int) = 0
      · rw [if_pos hb, if_neg (fun h => h.2 hb)]
        exact ⟨rfl, fun x h => by cases h⟩
      · have hc : id ≤ (coreOf (xs.take (i + 1))).1.L.length ∧ bal (coreOf (xs.take (i + 1))).1.P 1 (id : Int) ≠ 0 := ⟨hn, hb⟩
        rw [if_neg hb, if_pos hc]
        refine ⟨hs.1.symm, fun x h => ?_⟩
        cases h
        show 1 ≤ sinceOf _ _ _
        rw [hs.1]
        have := hs.2
        split <;> omega
    · rw [if_neg (fun h => hn h.2), if_neg (fun h => hn h.1)]
      refine ⟨?_, fun x h => by cases h⟩
      show svF xs i id = 0
      rw [ih]
      have hle : (coreOf (xs.take i)).1.L.length ≤ (coreOf (xs.take (i + 1))).1.L.length := by
        rw [coreOf_snoc xs (by omega)]
        exact stepLen _ _ _
      cases i with
      | zero => rfl
      | succ i =>
        rw [agL, seeL_find _ _ _ id h1, if_neg (fun h => by omega)]
theorem since_eq (xs : List EntS) {i : Nat} (hi : i ≤ xs.length) {id : Nat} (h1 : 1 ≤ id) : sinceOf (agL xs i) ((i : Int) + 1) (id : Int) = if svF xs i id = 0 then (i : Int) + 1 else svF xs i id := by
  obtain ⟨ih, ih2⟩ := svF_eq xs i hi id h1
  unfold sinceOf
  rcases hf : (agL xs i).find? (fun x => decide (x.o = (id : Int))) with _ | x
  · rw [hf] at ih
    rw [hf, ih]
    rfl
  · rw [hf] at ih
    have := ih2 x hf
    rw [hf, ih]
    simp only
    rw [if_neg (by omega)]
end Go.Proofs.YtibabfedpdoofaaDoor
namespace Go.Proofs.YtibabfedpdoofaaDoor
open Go.RowKit Go.Own

def greatE (x : EntS) : Bool := decide (200 < x.ref.length) || decide (200 < x.sku.length) || decide (100 < x.rs.length)
theorem greatE_no {x : EntS} (h : greatE x = false) : x.ref.length ≤ 200 ∧ x.sku.length ≤ 200 ∧ x.rs.length ≤ 100 := by
  simp only [greatE, Bool.or_eq_false_iff, decide_eq_false_iff_not] at h
  omega

set_option maxHeartbeats 4000000 in
set_option maxRecDepth 100000 in
theorem great20_any {W : World} {v : Value} (x : EntS) (h : IsRows W v x.rs) (h1 : x.ref.length ≤ maxLen) (h2 : x.sku.length ≤ maxLen) :
    Calls Tryd.prog 25 #[.agg #[.int .i64 (x).k, .int .i64 (x).id, .string ⟨(x).ref.toArray⟩, .string ⟨(x).sku.toArray⟩, .int .i64 (x).qty, .int .i64 (x).amt, .int .i64 (x).o, .int .i64 (x).d, .int .i64 (x).c, .int .i64 (x).p, .int .i64 (x).q, v]] W fun e w' => e = .returned (.bool (greatE x)) ∧ Below W.heap.size W w' := by
  obtain ⟨sp, sc, rfl, hm⟩ := h.slice
  unfold maxLen at h1 h2 hm
  have HO := Own.start W
  have HQ := Lib.hid (show greatE x = (decide (200 < x.ref.length) || decide (200 < x.sku.length) || decide (100 < x.rs.length)) from rfl)
  clear h
  generalize greatE x = z at *
  generalize hr : x.rs.length = n at *
  clear hr
  by_cases g1 : 200 < x.ref.length
  · have g1' : (200 : Int) < (x.ref.length : Int) := by omega
    go_enter Tryd.func25, Tryd.ntmps25
    go_wp2_with (first | (first | go_big_skip | ((with_reducible apply wpList_loadAll HO); exact rfl; exact rfl; (repeat (with_reducible (first | exact At.head _ | apply At.tail))); infer_instance; exact rfl; exact rfl; (simp only [Act.put, List.setIfInBounds_toArray, List.set_cons_succ, List.set_cons_zero])) | ((with_reducible apply wpList_loadOne HO); exact rfl; exact rfl; (repeat (with_reducible (first | exact At.head _ | apply At.tail))); exact rfl; infer_instance; exact rfl; (simp only [Act.put, List.setIfInBounds_toArray, List.set_cons_succ, List.set_cons_zero])) | ((with_reducible apply wpList_storeAll HO); exact rfl; exact rfl; exact rfl; (repeat (with_reducible (first | exact At.head _ | apply At.tail))); infer_instance; exact rfl; exact rfl; exact rfl; exact rfl; clear HO; intro w HO; (simp only [Act.put])) | (first | ((with_reducible apply wpList_boxAgg _ HO rfl); exact rfl; exact rfl; exact rfl; clear HO; intro b0 w HO; (simp only [Act.put, List.setIfInBounds_toArray, List.set_cons_succ, List.set_cons_zero])) | ((with_reducible apply wpList_allocAgg _ HO rfl); exact rfl; infer_instance; exact rfl; clear HO; intro b0 w HO; (simp only [Act.put, List.setIfInBounds_toArray, List.set_cons_succ, List.set_cons_zero])))) | ((with_reducible apply wpList_loadPart HO); exact rfl; exact rfl; (repeat (with_reducible (first | exact At.head _ | apply At.tail))); infer_instance; exact (Nat.le_of_ble_eq_true rfl); (simp only [List.drop_succ_cons, List.drop_zero, List.take_succ_cons, List.take_zero]; rfl); exact rfl; (simp only [Act.put, List.setIfInBounds_toArray, List.set_cons_succ, List.set_cons_zero])))
    go_ret
    exact ⟨by rw [HQ.out]; simp [g1], HO.grown⟩
  · have g1' : decide ((200 : Int) < (x.ref.length : Int)) = false := by simp; omega
    by_cases g2 : 200 < x.sku.length
    · have g2' : (200 : Int) < (x.sku.length : Int) := by omega
      go_enter Tryd.func25, Tryd.ntmps25
      go_wp2_with (first | (first | go_big_skip | ((with_reducible apply wpList_loadAll HO); exact rfl; exact rfl; (repeat (with_reducible (first | exact At.head _ | apply At.tail))); infer_instance; exact rfl; exact rfl; (simp only [Act.put, List.setIfInBounds_toArray, List.set_cons_succ, List.set_cons_zero])) | ((with_reducible apply wpList_loadOne HO); exact rfl; exact rfl; (repeat (with_reducible (first | exact At.head _ | apply At.tail))); exact rfl; infer_instance; exact rfl; (simp only [Act.put, List.setIfInBounds_toArray, List.set_cons_succ, List.set_cons_zero])) | ((with_reducible apply wpList_storeAll HO); exact rfl; exact rfl; exact rfl; (repeat (with_reducible (first | exact At.head _ | apply At.tail))); infer_instance; exact rfl; exact rfl; exact rfl; exact rfl; clear HO; intro w HO; (simp only [Act.put])) | (first | ((with_reducible apply wpList_boxAgg _ HO rfl); exact rfl; exact rfl; exact rfl; clear HO; intro b0 w HO; (simp only [Act.put, List.setIfInBounds_toArray, List.set_cons_succ, List.set_cons_zero])) | ((with_reducible apply wpList_allocAgg _ HO rfl); exact rfl; infer_instance; exact rfl; clear HO; intro b0 w HO; (simp only [Act.put, List.setIfInBounds_toArray, List.set_cons_succ, List.set_cons_zero])))) | ((with_reducible apply wpList_loadPart HO); exact rfl; exact rfl; (repeat (with_reducible (first | exact At.head _ | apply At.tail))); infer_instance; exact (Nat.le_of_ble_eq_true rfl); (simp only [List.drop_succ_cons, List.drop_zero, List.take_succ_cons, List.take_zero]; rfl); exact rfl; (simp only [Act.put, List.setIfInBounds_toArray, List.set_cons_succ, List.set_cons_zero])))
      go_ret
      exact ⟨by rw [HQ.out]; simp [g2], HO.grown⟩
    · have g2' : decide ((200 : Int) < (x.sku.length : Int)) = false := by simp; omega
      by_cases g3 : 100 < n
      · have g3' : (100 : Int) < (n : Int) := by omega
        go_enter Tryd.func25, Tryd.ntmps25
        go_wp2_with (first | (first | go_big_skip | ((with_reducible apply wpList_loadAll HO); exact rfl; exact rfl; (repeat (with_reducible (first | exact At.head _ | apply At.tail))); infer_instance; exact rfl; exact rfl; (simp only [Act.put, List.setIfInBounds_toArray, List.set_cons_succ, List.set_cons_zero])) | ((with_reducible apply wpList_loadOne HO); exact rfl; exact rfl; (repeat (with_reducible (first | exact At.head _ | apply At.tail))); exact rfl; infer_instance; exact rfl; (simp only [Act.put, List.setIfInBounds_toArray, List.set_cons_succ, List.set_cons_zero])) | ((with_reducible apply wpList_storeAll HO); exact rfl; exact rfl; exact rfl; (repeat (with_reducible (first | exact At.head _ | apply At.tail))); infer_instance; exact rfl; exact rfl; exact rfl; exact rfl; clear HO; intro w HO; (simp only [Act.put])) | (first | ((with_reducible apply wpList_boxAgg _ HO rfl); exact rfl; exact rfl; exact rfl; clear HO; intro b0 w HO; (simp only [Act.put, List.setIfInBounds_toArray, List.set_cons_succ, List.set_cons_zero])) | ((with_reducible apply wpList_allocAgg _ HO rfl); exact rfl; infer_instance; exact rfl; clear HO; intro b0 w HO; (simp only [Act.put, List.setIfInBounds_toArray, List.set_cons_succ, List.set_cons_zero])))) | ((with_reducible apply wpList_loadPart HO); exact rfl; exact rfl; (repeat (with_reducible (first | exact At.head _ | apply At.tail))); infer_instance; exact (Nat.le_of_ble_eq_true rfl); (simp only [List.drop_succ_cons, List.drop_zero, List.take_succ_cons, List.take_zero]; rfl); exact rfl; (simp only [Act.put, List.setIfInBounds_toArray, List.set_cons_succ, List.set_cons_zero])))
        go_ret
        exact ⟨by rw [HQ.out]; simp [g3], HO.grown⟩
      · have g3' : decide ((100 : Int) < (n : Int)) = false := by simp; omega
        go_enter Tryd.func25, Tryd.ntmps25
        go_wp2_with (first | (first | go_big_skip | ((with_reducible apply wpList_loadAll HO); exact rfl; exact rfl; (repeat (with_reducible (first | exact At.head _ | apply At.tail))); infer_instance; exact rfl; exact rfl; (simp only [Act.put, List.setIfInBounds_toArray, List.set_cons_succ, List.set_cons_zero])) | ((with_reducible apply wpList_loadOne HO); exact rfl; exact rfl; (repeat (with_reducible (first | exact At.head _ | apply At.tail))); exact rfl; infer_instance; exact rfl; (simp only [Act.put, List.setIfInBounds_toArray, List.set_cons_succ, List.set_cons_zero])) | ((with_reducible apply wpList_storeAll HO); exact rfl; exact rfl; exact rfl; (repeat (with_reducible (first | exact At.head _ | apply At.tail))); infer_instance; exact rfl; exact rfl; exact rfl; exact rfl; clear HO; intro w HO; (simp only [Act.put])) | (first | ((with_reducible apply wpList_boxAgg _ HO rfl); exact rfl; exact rfl; exact rfl; clear HO; intro b0 w HO; (simp only [Act.put, List.setIfInBounds_toArray, List.set_cons_succ, List.set_cons_zero])) | ((with_reducible apply wpList_allocAgg _ HO rfl); exact rfl; infer_instance; exact rfl; clear HO; intro b0 w HO; (simp only [Act.put, List.setIfInBounds_toArray, List.set_cons_succ, List.set_cons_zero])))) | ((with_reducible apply wpList_loadPart HO); exact rfl; exact rfl; (repeat (with_reducible (first | exact At.head _ | apply At.tail))); infer_instance; exact (Nat.le_of_ble_eq_true rfl); (simp only [List.drop_succ_cons, List.drop_zero, List.take_succ_cons, List.take_zero]; rfl); exact rfl; (simp only [Act.put, List.setIfInBounds_toArray, List.set_cons_succ, List.set_cons_zero])))
        go_ret
        exact ⟨by rw [HQ.out]; simp [g1, g2, g3], HO.grown⟩
end Go.Proofs.YtibabfedpdoofaaDoor
namespace Go.Proofs.YtibabfedpdoofaaDoor
open Go.RowKit Go.Own

/-- An entry with its rows' slice. -/
structure EntI where
  x : EntS
  v : Value
def entC (e : EntI) : List Value := [.int .i64 e.x.k, .int .i64 e.x.id, .string ⟨e.x.ref.toArray⟩, .string ⟨e.x.sku.toArray⟩, .int .i64 e.x.qty, .int .i64 e.x.amt, .int .i64 e.x.o, .int .i64 e.x.d, .int .i64 e.x.c, .int .i64 e.x.p, .int .i64 e.x.q, e.v]
/-- Entries in memory. -/
structure IsEnts (W : World) (v : Value) (es : List EntI) : Prop where
  l : IsL W 12 v (es.map entC)
  r : ∀ e ∈ es, IsRows W e.v e.x.rs ∧ e.x.ref.length ≤ maxLen ∧ e.x.sku.length ≤ maxLen ∧ inI e.x.o = true
theorem IsEnts.below {W w : World} {v : Value} {es : List EntI} (h : IsEnts W v es) (hb : Below W.heap.size W w) : IsEnts w v es := ⟨h.l.below hb h.l.lt, fun e he => ⟨(h.r e he).1.below hb (h.r e he).1.lt, (h.r e he).2⟩⟩
theorem IsEnts.ent {W : World} {v : Value} {es : List EntI} (h : IsEnts W v es) {e : EntI} (he : e ∈ es) (M : List Ent) : EntW W M e.x e.v := ⟨.old (h.r e he).1 M, (h.r e he).2.1, (h.r e he).2.2.1, (h.r e he).2.2.2⟩
def great1 (e : EntI) : Bool := greatE e.x || decide (60 < e.x.rs.length)
def greatL (es : List EntI) (most : Int) : Bool := es.any great1 || decide (most < (es.length : Int))

set_option maxHeartbeats 8000000 in
set_option maxRecDepth 100000 in
theorem great24_any {W : World} {v : Value} {es : List EntI} (most : Int) (h : IsEnts W v es) : Calls Tryd.prog 6 #[v, .int .i64 most] W fun e w' => e = .returned (.bool (greatL es most)) ∧ Below W.heap.size W w' := by
  have HH := Lib.hid h.l
  have HR := Lib.hid h
  obtain ⟨sp, sc, rfl, hmx⟩ := h.l.slice
  rw [List.length_map] at hmx HH HR ⊢
  have hmx' : (es.length : Int) ≤ 9223372036854775807 := by unfold maxLen at hmx; omega
  have HO := Own.start W
  generalize hg : greatL es most = g0
  replace hg := Lib.hid hg
  clear h
  go_enter Tryd.func6, Tryd.ntmps6
  go_wp2_with fail
  go_loopw [5] (fun i wr => ∃ j : Nat, j ≤ es.length ∧ i = .int .i64 (j : Int) ∧ (es.take j).any great1 = false ∧ Own W wr []) (fun i _ => es.length - (intOf i).toNat)
  case atStart => exact ⟨0, by omega, rfl, rfl, HO⟩
  case round =>
    clear HO
    obtain ⟨j, hj, rfl, hnf, HO⟩ := hrel
    by_cases hjl : j < es.length
    · have hjI : (j : Int) < (es.length : Int) := by omega
      obtain ⟨a, rfl, hst⟩ := oldAt HH.out rfl hjl
      have hr := HR.out.r _ (List.getElem_mem hjl)
      have HX := Lib.hid (show great1 es[j] = false → (es.take (j + 1)).any great1 = false from fun hx => by
        rw [List.take_succ_eq_append_getElem hjl, List.any_append, hnf]
        simpa using hx)
      have HY := Lib.hid (show great1 es[j] = true → greatL es most = true from fun hx => by
        unfold greatL
        rw [List.any_eq_true.2 ⟨es[j], List.getElem_mem hjl, hx⟩, Bool.true_or])
      clear hnf
      generalize es[j] = y at *
      obtain ⟨x, u⟩ := y
      obtain ⟨q1, c1, hu, hq⟩ := hr.1.slice
      simp only at hu hr
      subst hu
      have G := fun w (hb : Below W.heap.size W w) => great20_any x (hr.1.below hb hr.1.lt) hr.2.1 hr.2.2.1
      unfold entC at hst
      have hz := Lib.hid (show great1 ⟨x, .slice q1 x.rs.length c1⟩ = (greatE x || decide (60 < x.rs.length)) from rfl)
      have h11 := Lib.hid (fun w' (hb : Below W.heap.size W w') => hst w' hb 11 _ rfl)
      replace hst := Lib.hid hst
      clear hr
      generalize greatE x = ge at *
      cases ge with
      | true =>
        obtain rfl : g0 = true := hg.out.symm.trans (HY.out hz.out)
        clear HX HY hz
        go_wp2_with (first | go_big_skip | ((with_reducible apply wpList_loadAt HO); exact rfl; exact rfl; exact (fun w' h1 => hst.out w' h1.grown); infer_instance; exact rfl; exact rfl; (simp only [Act.put, List.setIfInBounds_toArray, List.set_cons_succ, List.set_cons_zero])) | ((with_reducible apply wpList_loadAt1 HO); exact rfl; exact rfl; exact (fun w' h1 => h11.out w' h1.grown); infer_instance; exact rfl; (simp only [Act.put, List.setIfInBounds_toArray, List.set_cons_succ, List.set_cons_zero])) | (go_at_call 25; go_must ((with_reducible refine (G _ HO.grown).mono ?_); rintro e w ⟨rfl, hb⟩; replace HO := HO.call hb; clear hb)))
        go_ret
        exact ⟨rfl, HO.grown⟩
      | false =>
        rw [Bool.false_or] at hz
        by_cases h60 : 60 < x.rs.length
        · have h60I : (60 : Int) < (x.rs.length : Int) := by omega
          obtain rfl : g0 = true := hg.out.symm.trans (HY.out (hz.out.trans (decide_eq_true h60)))
          clear HX HY hz h60
          go_wp2_with (first | go_big_skip | ((with_reducible apply wpList_loadAt HO); exact rfl; exact rfl; exact (fun w' h1 => hst.out w' h1.grown); infer_instance; exact rfl; exact rfl; (simp only [Act.put, List.setIfInBounds_toArray, List.set_cons_succ, List.set_cons_zero])) | ((with_reducible apply wpList_loadAt1 HO); exact rfl; exact rfl; exact (fun w' h1 => h11.out w' h1.grown); infer_instance; exact rfl; (simp only [Act.put, List.setIfInBounds_toArray, List.set_cons_succ, List.set_cons_zero])) | (go_at_call 25; go_must ((with_reducible refine (G _ HO.grown).mono ?_); rintro e w ⟨rfl, hb⟩; replace HO := HO.call hb; clear hb)))
          go_ret
          exact ⟨rfl, HO.grown⟩
        · have h60I : ¬ (60 : Int) < (x.rs.length : Int) := by omega
          have HZ := Lib.hid (HX.out (hz.out.trans (decide_eq_false h60)))
          clear HX HY hz h60
          go_wp2_with (first | go_big_skip | ((with_reducible apply wpList_loadAt HO); exact rfl; exact rfl; exact (fun w' h1 => hst.out w' h1.grown); infer_instance; exact rfl; exact rfl; (simp only [Act.put, List.setIfInBounds_toArray, List.set_cons_succ, List.set_cons_zero])) | ((with_reducible apply wpList_loadAt1 HO); exact rfl; exact rfl; exact (fun w' h1 => h11.out w' h1.grown); infer_instance; exact rfl; (simp only [Act.put, List.setIfInBounds_toArray, List.set_cons_succ, List.set_cons_zero])) | (go_at_call 25; go_must ((with_reducible refine (G _ HO.grown).mono ?_); rintro e w ⟨rfl, hb⟩; replace HO := HO.call hb; clear hb)))
          go_roundw
          case rel => exact ⟨j + 1, by omega, by go_num, HZ.out, HO⟩
          case measure => simp [intOf] <;> omega
    · obtain rfl : j = es.length := by omega
      rw [List.take_length] at hnf
      have HQ := Lib.hid (show greatL es most = decide (most < (es.length : Int)) by unfold greatL; rw [hnf, Bool.false_or])
      obtain rfl : g0 = decide (most < (es.length : Int)) := hg.out.symm.trans HQ.out
      clear hnf
      go_wp2_with fail
      go_ret
      exact ⟨rfl, HO.grown⟩
end Go.Proofs.YtibabfedpdoofaaDoor
namespace Go.Proofs.YtibabfedpdoofaaDoor
open Go.RowKit Go.Own Go.Maps

set_option maxHeartbeats 16000000 in
set_option maxRecDepth 100000 in
theorem agingSince_any {W : World} {v : Value} {es : List EntI} (h : IsEnts W v es) (hL : LaidE W) : Calls Tryd.prog 3 #[v] W fun e w' => e = .returned (.bool true) ∧ Below W.heap.size W w' := by
  have HO := Own.start W
  have AD := fun (w : World) (hb : Below W.heap.size W w) => aged_any w (hL.below hb)
  have G := fun (w : World) (hb : Below W.heap.size W w) => great24_any 40 (h.below hb)
  have HH := Lib.hid h.l
  have HR := Lib.hid h
  obtain ⟨sp, sc, rfl, hmx⟩ := h.l.slice
  rw [List.length_map] at hmx HH HR G ⊢
  have hmx' : (es.length : Int) ≤ 9223372036854775807 := by unfold maxLen at hmx; omega
  by_cases hg : greatL es 40 = true
  · rw [hg] at G
    clear HH HR h
    go_enter Tryd.func3, Tryd.ntmps3
    go_wp2_with (first | go_big_skip | (go_at_call 6; go_must ((with_reducible refine (G _ HO.grown).mono ?_); rintro e w ⟨rfl, hb⟩; replace HO := HO.call hb; clear hb)) | (go_at_call 7; go_must ((with_reducible refine (AD _ HO.grown).mono ?_); rintro e w ⟨rfl, hb⟩; replace HO := HO.call hb; clear hb)))
    go_ret
    exact ⟨rfl, HO.grown⟩
  · have hl40 : es.length ≤ 40 := by
      simp only [greatL, Bool.or_eq_true, decide_eq_true_eq, not_or] at hg
      omega
    rw [Bool.not_eq_true] at hg
    rw [hg] at G
    clear hg h
    go_enter Tryd.func3, Tryd.ntmps3
    go_wp2_with (first | go_big_skip | (first | go_big_skip | ((with_reducible apply wpList_loadAll HO); exact rfl; exact rfl; (repeat (with_reducible (first | exact At.head _ | apply At.tail))); infer_instance; exact rfl; exact rfl; (simp only [Act.put, List.setIfInBounds_toArray, List.set_cons_succ, List.set_cons_zero])) | ((with_reducible apply wpList_loadOne HO); exact rfl; exact rfl; (repeat (with_reducible (first | exact At.head _ | apply At.tail))); exact rfl; infer_instance; exact rfl; (simp only [Act.put, List.setIfInBounds_toArray, List.set_cons_succ, List.set_cons_zero]))) | (go_at_call 6; go_must ((with_reducible refine (G _ HO.grown).mono ?_); rintro e w ⟨rfl, hb⟩; replace HO := HO.call hb; clear hb)) | (go_at_call 8; go_must ((with_reducible refine (agNew_any _).mono ?_); rintro e w ⟨g, rfl, HO1⟩; replace HO := HO.lift HO1; clear HO1)) | (go_at_call 9; go_must ((with_reducible refine (coNew_any _).mono ?_); rintro e w ⟨a, rfl, HO1⟩; replace HO := HO.lift HO1; clear HO1)) | ((with_reducible apply wpList_allocAgg _ HO rfl); exact rfl; infer_instance; exact rfl; clear HO; intro b4 w HO; (simp only [Act.put, List.setIfInBounds_toArray, List.set_cons_succ, List.set_cons_zero])))
    have HI : Own W w (coPs a ⟨[], []⟩ inNil zeroI ++ (inPs inNil zeroI ++ (agPs g 0 (.slice none 0 0) [] ++ [box b4 (.cells ((List.replicate 61 (0 : Int)).map (Value.int .i64)).toArray 29)]))) := by
      have h1 := HO.perm (List.perm_append_comm (l₁ := [box b4 (.cells ((List.replicate 61 (0 : Int)).map (Value.int .i64)).toArray 29)]) (l₂ := (coPs a ⟨[], []⟩ inNil zeroI ++ inPs inNil zeroI) ++ agPs g 0 (.slice none 0 0) []))
      rw [List.append_assoc, List.append_assoc] at h1
      exact h1
    go_loopw [6] (fun iv wr => ∃ (j : Nat) (a' : CoA) (i' : InA) (v' : Value) (sv : List Int), j ≤ es.length ∧ iv = .int .i64 (j : Int) ∧ a'.c = a.c ∧ sv.length = 61 ∧ (∀ id : Nat, 1 ≤ id → id ≤ 60 → sv[id]? = some (svF (es.map (·.x)) j id)) ∧ Own W wr (coPs a' (coreOf ((es.map (·.x)).take j)).1 i' (coreOf ((es.map (·.x)).take j)).2 ++ (inPs i' (coreOf ((es.map (·.x)).take j)).2 ++ (agPs g (j : Int) v' (agL (es.map (·.x)) j) ++ [box b4 (.cells (sv.map (Value.int .i64)).toArray 29)])))) (fun iv _ => es.length - (intOf iv).toNat)
    case atStart => exact ⟨0, a, inNil, .slice none 0 0, List.replicate 61 0, by omega, rfl, rfl, rfl, fun id h1 h2 => by rw [List.getElem?_replicate, if_pos (by omega)]; rfl, HI⟩
    case round =>
      clear HO HI
      obtain ⟨j, a', i', v', sv, hj, rfl, hac, hsl, hsv, HO⟩ := hrel
      by_cases hjl : j < es.length
      · have hjI : (j : Int) < (es.length : Int) := by omega
        obtain ⟨q, rfl, hst⟩ := oldAt HH.out rfl hjl
        have hent := HR.out.ent (List.getElem_mem hjl)
        obtain ⟨ok1, ok2, ok3⟩ := coreOf_ok (es.map (·.x)) j (by simp; omega)
        have hsn := coreOf_snoc (es.map (·.x)) (j := j) (by simpa using hjl)
        rw [List.getElem_map] at hsn
        have hS : (coreOf ((es.map (·.x)).take (j + 1))).1 = applyS (coreOf ((es.map (·.x)).take j)).1 (coreOf ((es.map (·.x)).take j)).2 es[j].x := by rw [hsn]
        have hA : (coreOf ((es.map (·.x)).take (j + 1))).2 = applyI (coreOf ((es.map (·.x)).take j)).2 es[j].x := by rw [hsn]
        obtain ⟨ok4, ok5, ok6⟩ := coreOf_ok (es.map (·.x)) (j + 1) (by simp; omega)
        have AP := coApply_any es[j].x HO (hent _) ok3 ok1 (by omega) hL
        rw [← hS, ← hA, hac] at AP
        have hag := Lib.hid (show agL (es.map (·.x)) (j + 1) = seeL (agL (es.map (·.x)) j) ((j : Int) + 1) (coreOf ((es.map (·.x)).take (j + 1))).1.P (coreOf ((es.map (·.x)).take (j + 1))).1.L.length from rfl)
        have hsee : seeN (j : Int) ((j : Int) + 1) = (j : Int) + 1 := by unfold seeN; omega
        generalize es[j] = y at *
        obtain ⟨x, u⟩ := y
        unfold entC at hst
        replace hst := Lib.hid hst
        clear hS hA hsn ok1 ok2 ok3 hent
        go_wp2_with (first | go_big_skip | ((with_reducible apply wpList_loadAt HO); exact rfl; exact rfl; exact (fun w' h1 => hst.out w' h1.grown); infer_instance; exact rfl; exact rfl; (simp only [Act.put, List.setIfInBounds_toArray, List.set_cons_succ, List.set_cons_zero])) | (go_at_call 10; go_must ((with_reducible refine AP.mono ?_); clear AP HO; rintro e w ⟨rfl, u', v9, i9, -, HO⟩)))
        have HO2 : Own W w (agPs g (j : Int) v' (agL (es.map (·.x)) j) ++ ((coPs (⟨a.c, v9, a'.k, u', a'.pm, a'.bm⟩ : CoA) (coreOf ((es.map (·.x)).take (j + 1))).1 i9 (coreOf ((es.map (·.x)).take (j + 1))).2 ++ inPs i9 (coreOf ((es.map (·.x)).take (j + 1))).2) ++ [box b4 (.cells (sv.map (Value.int .i64)).toArray 29)])) := by
          rw [← List.append_assoc] at HO
          exact HO.perm (List.perm_append_comm_assoc _ _ _)
        have HC : ∀ (w' : World) (L' : List Ent), Own W w' L' → (∀ e ∈ (coPs (⟨a.c, v9, a'.k, u', a'.pm, a'.bm⟩ : CoA) (coreOf ((es.map (·.x)).take (j + 1))).1 i9 (coreOf ((es.map (·.x)).take (j + 1))).2 ++ inPs i9 (coreOf ((es.map (·.x)).take (j + 1))).2) ++ [box b4 (.cells (sv.map (Value.int .i64)).toArray 29)], e ∈ L') → CoAt w' (⟨a.c, v9, a'.k, u', a'.pm, a'.bm⟩ : CoA) (coreOf ((es.map (·.x)).take (j + 1))).1 i9 (coreOf ((es.map (·.x)).take (j + 1))).2 := fun w' L' h hm => Own.coAt h (hm _ (List.Mem.head _)) (hm _ (List.Mem.tail _ (List.Mem.head _))) (hm _ (List.Mem.tail _ (List.Mem.tail _ (List.Mem.head _))))
        have SE := agSee_any ((j : Int) + 1) HO2 HC ok4.len
        rw [hsee, ← hag.out] at SE
        dsimp only at SE
        clear HO HO2 HC
        have hll : (agL (es.map (·.x)) (j + 1)).length ≤ 100000 := by rw [hag.out]; exact Nat.le_trans (seeL_len _ _ _ _) (by have := ok4.len; omega)
        go_wp2_with (first | go_big_skip | (go_at_call 11; go_must ((with_reducible refine SE.mono ?_); clear SE; rintro e w ⟨v8, rfl, HO⟩)) | (go_at_call 12; go_must ((have h9 := agLines_any (g := g) (now := (j : Int) + 1) (v := v8) (ls := agL (es.map (·.x)) (j + 1)) (Own.agAt HO (List.Mem.head _) (List.Mem.tail _ (List.Mem.head _))) (rowNil_of (HO.has _ (List.Mem.tail _ (List.Mem.head _)))) hll); (with_reducible refine h9.mono ?_); clear h9; rintro e w ⟨v7, rfl, HO1⟩; replace HO := HO.lift HO1; clear HO1; rw [List.singleton_append] at HO; obtain ⟨⟨p7, c7, rfl⟩, -⟩ := HO.rowForm (At.head _); rw [List.length_map] at HO ⊢)))
        have HN : ∃ N : List Ent, (∀ (w' : World) (L' : List Ent), Own W w' L' → (∀ e ∈ N, e ∈ L') → CoAt w' (⟨a.c, v9, a'.k, u', a'.pm, a'.bm⟩ : CoA) (coreOf ((es.map (·.x)).take (j + 1))).1 i9 (coreOf ((es.map (·.x)).take (j + 1))).2) ∧ N = agPs g ((j : Int) + 1) v8 (agL (es.map (·.x)) (j + 1)) ++ (coPs (⟨a.c, v9, a'.k, u', a'.pm, a'.bm⟩ : CoA) (coreOf ((es.map (·.x)).take (j + 1))).1 i9 (coreOf ((es.map (·.x)).take (j + 1))).2 ++ inPs i9 (coreOf ((es.map (·.x)).take (j + 1))).2) :=
          ⟨_, fun w' L' h hm => Own.coAt h (hm _ (List.Mem.tail _ (List.Mem.tail _ (List.Mem.head _)))) (hm _ (List.Mem.tail _ (List.Mem.tail _ (List.Mem.tail _ (List.Mem.head _))))) (hm _ (List.Mem.tail _ (List.Mem.tail _ (List.Mem.tail _ (List.Mem.tail _ (List.Mem.head _)))))), rfl⟩
        obtain ⟨N, HCN, hN⟩ := HN
        have HO3 : Own W w (box b4 (.cells (sv.map (Value.int .i64)).toArray 29) :: row 47 3 (.slice p7 (agL (es.map (·.x)) (j + 1)).length c7) ((agL (es.map (·.x)) (j + 1)).map lineC) :: N) := by
          rw [← List.append_assoc, ← hN] at HO
          exact HO.perm (List.perm_append_comm (l₁ := row 47 3 (.slice p7 (agL (es.map (·.x)) (j + 1)).length c7) ((agL (es.map (·.x)) (j + 1)).map lineC) :: N) (l₂ := [_]))
        clear HO
        have OC := Lib.hid (fun (w : World) (L : List Ent) (h : Own W w L) (hm : ∀ e ∈ N, e ∈ L) => coOrders_any (HCN w L h hm))
        have BC := Lib.hid (fun (w : World) (L : List Ent) (h : Own W w L) (hm : ∀ e ∈ N, e ∈ L) (m : Nat) (hk : m < 60) => coBal_any (HCN w L h hm) (n := 1) (o := (m : Int) + 1) rfl (inI_iff.2 (by omega)))
        have hn60 := ok4.len
        have HSE := Lib.hid (fun (m : Nat) => since_eq (es.map (·.x)) (i := j) (id := m + 1) (by simp; omega) (by omega))
        have HSV := Lib.hid (fun (m : Nat) (hm : m + 1 ≤ (coreOf ((es.map (·.x)).take (j + 1))).1.L.length) => show svF (es.map (·.x)) (j + 1) (m + 1) = (if bal (coreOf ((es.map (·.x)).take (j + 1))).1.P 1 ((m + 1 : Nat) : Int) = 0 then 0 else if svF (es.map (·.x)) j (m + 1) = 0 then (j : Int) + 1 else svF (es.map (·.x)) j (m + 1)) from by rw [svF, if_pos ⟨by omega, hm⟩])
        go_loopw [8, 9] (fun kv iv wr => ∃ (m : Nat) (tv : List Int), m ≤ (coreOf ((es.map (·.x)).take (j + 1))).1.L.length ∧ iv = .int .i64 ((m : Int) + 1) ∧ kv = .int .i64 ((seeL (agL (es.map (·.x)) j) ((j : Int) + 1) (coreOf ((es.map (·.x)).take (j + 1))).1.P m).length : Int) ∧ tv.length = 61 ∧ (∀ id : Nat, 1 ≤ id → id ≤ 60 → tv[id]? = some (if id ≤ m then svF (es.map (·.x)) (j + 1) id else svF (es.map (·.x)) j id)) ∧ Own W wr (box b4 (.cells (tv.map (Value.int .i64)).toArray 29) :: row 47 3 (.slice p7 (agL (es.map (·.x)) (j + 1)).length c7) ((agL (es.map (·.x)) (j + 1)).map lineC) :: N)) (fun _ iv _ => 62 - (intOf iv).toNat)
        case atStart => exact ⟨0, sv, by omega, rfl, rfl, hsl, fun id h1 h2 => by rw [if_neg (by omega)]; exact hsv id h1 h2, HO3⟩
        case round =>
          clear HO3
          obtain ⟨m, tv, hm, rfl, rfl, htl, htv, HO⟩ := hrel
          by_cases hml : m < (coreOf ((es.map (·.x)).take (j + 1))).1.L.length
          · have hmI : (m : Int) + 1 ≤ ((coreOf ((es.map (·.x)).take (j + 1))).1.L.length : Int) := by omega
            have hm60 : m < 60 := by omega
            have hsm := HSV.out m (by omega)
            have hse := HSE.out m
            have htm := htv (m + 1) (by omega) (by omega)
            rw [if_neg (by omega)] at htm
            have BCm := Lib.hid (fun w L h hm => BC.out w L h hm m hm60)
            have hcast : ((m + 1 : Nat) : Int) = (m : Int) + 1 := by omega
            rw [hcast] at hsm hse
            clear hcast
            replace hsm := Lib.hid hsm
            replace hse := Lib.hid hse
            replace htm := Lib.hid htm
            replace htv := Lib.hid htv
            replace hsv := Lib.hid hsv
            have hln := Lib.hid (fun (hb : bal (coreOf ((es.map (·.x)).take (j + 1))).1.P 1 ((m : Int) + 1) ≠ 0) => show (agL (es.map (·.x)) (j + 1))[(seeL (agL (es.map (·.x)) j) ((j : Int) + 1) (coreOf ((es.map (·.x)).take (j + 1))).1.P m).length]? = some ⟨(m : Int) + 1, sinceOf (agL (es.map (·.x)) j) ((j : Int) + 1) ((m : Int) + 1), bal (coreOf ((es.map (·.x)).take (j + 1))).1.P 1 ((m : Int) + 1)⟩ from by rw [hag.out]; exact seeL_at (ls := agL (es.map (·.x)) j) (now := (j : Int) + 1) hml hb)
            rw [hse.out] at hln
            clear HSV HSE BC HCN hN hag hsee ok5 ok4 ok6 hac hll
            generalize hbk : bal (coreOf ((es.map (·.x)).take (j + 1))).1.P 1 ((m : Int) + 1) = bk at *
            replace hbk := Lib.hid hbk
            generalize hnn : (coreOf ((es.map (·.x)).take (j + 1))).1.L.length = nn at *
            replace hnn := Lib.hid hnn
            have hk60 := seeL_len (agL (es.map (·.x)) j) ((j : Int) + 1) (coreOf ((es.map (·.x)).take (j + 1))).1.P m
            generalize hkk : (seeL (agL (es.map (·.x)) j) ((j : Int) + 1) (coreOf ((es.map (·.x)).take (j + 1))).1.P m).length = kk at *
            replace hkk := Lib.hid hkk
            by_cases hb : bk = 0
            · subst hb
              go_wp2_with (first | go_big_skip | ((with_reducible apply wpList_storeOne HO); exact rfl; exact rfl; (first | (simp [Act.eval]; rfl) | exact rfl); exact rfl; (repeat (with_reducible (first | exact At.head _ | apply At.tail))); infer_instance; exact (by rw [List.length_map, htl]; omega); exact rfl; exact rfl; clear HO; intro w HO; (simp only [Act.put])) | (go_at_call 13; go_must ((with_reducible refine (OC.out _ _ HO (by intro e he; repeat (first | exact he | apply List.mem_cons_of_mem))).mono ?_); rintro e w ⟨rfl, hb⟩; replace HO := HO.call hb; clear hb)) | (go_at_call 14; go_must ((with_reducible refine (BCm.out _ _ HO (by intro e he; repeat (first | exact he | apply List.mem_cons_of_mem))).mono ?_); rintro e w ⟨rfl, hb⟩; replace HO := HO.call hb; clear hb)))
              go_roundw
              case rel =>
                refine ⟨m + 1, tv.set (m + 1) 0, by omega, by go_num, by rw [seeL_step_len, hbk.out, if_pos rfl, Nat.add_zero, hkk.out], by simp [htl], fun id h1 h2 => ?_, by rw [List.map_set]; exact HO⟩
                by_cases hid : id = m + 1
                · subst hid
                  rw [List.getElem?_set_self (by omega), if_pos (Nat.le_refl _), hsm.out]; simp
                · rw [List.getElem?_set_ne (by omega), htv.out id h1 h2]
                  by_cases hle : id ≤ m
                  · rw [if_pos hle, if_pos (by omega)]
                  · rw [if_neg hle, if_neg (by omega)]
              case measure => simp [intOf] <;> omega
            · have hld : (tv.map (Value.int .i64))[m + 1]? = some (.int .i64 (svF (es.map (·.x)) j (m + 1))) := by rw [List.getElem?_map, htm.out]; rfl
              replace hld := Lib.hid hld
              generalize hs0 : svF (es.map (·.x)) j (m + 1) = s0 at *
              replace hs0 := Lib.hid hs0
              have hlk := hln.out hb
              obtain ⟨hkl, -⟩ := List.getElem?_eq_some_iff.1 hlk
              have hklI : (kk : Int) < ((agL (es.map (·.x)) (j + 1)).length : Int) := by omega
              have hrow := isL_of_owns (lineC_len _) (HO.has _ (List.Mem.tail _ (List.Mem.head _)))
              obtain ⟨q7, _, hq7, -, -, -⟩ := hrow.at (by rw [List.length_map]; omega)
              obtain rfl : p7 = some q7 := by have := hq7; simp at this; exact this.1
              clear hrow hq7
              generalize hsn : (if s0 = 0 then (j : Int) + 1 else s0) = sn at *
              have RW : ∀ (w' : World) (L : List Ent), Own W w' L → row 47 3 (.slice (some q7) (agL (es.map (·.x)) (j + 1)).length c7) ((agL (es.map (·.x)) (j + 1)).map lineC) ∈ L → ∀ (i : Nat) (u : Value), [Value.int .i64 ((m : Int) + 1), .int .i64 sn, .int .i64 bk][i]? = some u → w'.cell? ((q7.add (kk * 3)).add i) = some u := fun w' L h hm i u hu => by
                obtain ⟨b, cap, hb', _, _, hR⟩ := (isL_of_owns (lineC_len _) (h.has _ hm)).at (by rw [List.length_map]; omega)
                rw [List.length_map] at hb'
                cases hb'
                have := hR.c kk (by simpa using hkl) i u (by rw [List.getElem_map, (List.getElem?_eq_some_iff.1 hlk).2]; exact hu)
                exact this
              have hq : ∀ w, (binOp .neq 47 (.agg #[.int .i64 ((m : Int) + 1), .int .i64 sn, .int .i64 bk]) (.agg #[.int .i64 ((m : Int) + 1), .int .i64 sn, .int .i64 bk])).run Tryd.prog w = .ok (.bool false) w := fun w => by simpa using run_line_neq ⟨(m : Int) + 1, sn, bk⟩ ⟨(m : Int) + 1, sn, bk⟩ w
              replace hlk := Lib.hid hlk
              replace hsn := Lib.hid hsn
              by_cases hz : s0 = 0
              · subst hz
                obtain rfl : sn = (j : Int) + 1 := by rw [← hsn.out, if_pos rfl]
                have hls : ((tv.map (Value.int .i64)).set (m + 1) (.int .i64 ((j : Int) + 1)))[m + 1]? = some (.int .i64 ((j : Int) + 1)) := by rw [List.getElem?_set_self (by rw [List.length_map]; omega)]
                replace hls := Lib.hid hls
                go_upto_region 20 with (first | go_big_skip | ((with_reducible apply wpList_loadOne HO); exact rfl; exact rfl; (repeat (with_reducible (first | exact At.head _ | apply At.tail))); exact hld.out; infer_instance; exact rfl; (simp only [Act.put, List.setIfInBounds_toArray, List.set_cons_succ, List.set_cons_zero])) | ((with_reducible apply wpList_storeOne HO); exact rfl; exact rfl; (first | (simp [Act.eval]; rfl) | exact rfl); exact rfl; (repeat (with_reducible (first | exact At.head _ | apply At.tail))); infer_instance; exact (by rw [List.length_map, htl]; omega); exact rfl; exact rfl; clear HO; intro w HO; (simp only [Act.put])) | (go_at_call 13; go_must ((with_reducible refine (OC.out _ _ HO (by intro e he; repeat (first | exact he | apply List.mem_cons_of_mem))).mono ?_); rintro e w ⟨rfl, hb⟩; replace HO := HO.call hb; clear hb)) | (go_at_call 14; go_must ((with_reducible refine (BCm.out _ _ HO (by intro e he; repeat (first | exact he | apply List.mem_cons_of_mem))).mono ?_); rintro e w ⟨rfl, hb⟩; replace HO := HO.call hb; clear hb)))
                have hge : decide ((agL (es.map (·.x)) (j + 1)).length ≤ kk) = false := decide_eq_false (by omega)
                refine region_own HO (by kernel_rfl) (by kernel_rfl) ?_
                clear HO
                intro F HF
                repeat (first | (first | (simp only [hge]) | ((with_reducible apply wpQuiet_loadAt HF); exact rfl; exact rfl; exact (fun w' h1 => RW w' _ h1 (List.Mem.tail _ (List.Mem.head _))); infer_instance; exact rfl; exact rfl; (simp only [Act.put, List.setIfInBounds_toArray, List.set_cons_succ, List.set_cons_zero])) | ((with_reducible apply wpQuiet_loadOne HF); exact rfl; exact rfl; (repeat (with_reducible (first | exact At.head _ | apply At.tail))); exact hls.out; infer_instance; exact rfl; (simp only [Act.put, List.setIfInBounds_toArray, List.set_cons_succ, List.set_cons_zero]))) | go_big_quiet_step (fail))
                refine wpQuiet_nil ?_
                intro x
                have HO := HF.own x
                clear HF
                generalize F x = w at *
                clear x F
                go_wp2_with fail
                go_roundw
                case rel =>
                  refine ⟨m + 1, tv.set (m + 1) ((j : Int) + 1), by omega, by go_num, by rw [seeL_step_len, hbk.out, if_neg hb, hkk.out] <;> simp <;> (try unfold wrap64) <;> omega, by simp [htl], fun id h1 h2 => ?_, by rw [List.map_set]; exact HO⟩
                  by_cases hid : id = m + 1
                  · subst hid
                    rw [List.getElem?_set_self (by omega), if_pos (Nat.le_refl _), hsm.out, if_neg hb]; first | done | simp
                  · rw [List.getElem?_set_ne (by omega), htv.out id h1 h2]
                    by_cases hle : id ≤ m
                    · rw [if_pos hle, if_pos (by omega)]
                    · rw [if_neg hle, if_neg (by omega)]
                case measure => simp [intOf] <;> omega
              · obtain rfl : sn = s0 := by rw [← hsn.out, if_neg hz]
                go_upto_region 20 with (first | go_big_skip | ((with_reducible apply wpList_loadOne HO); exact rfl; exact rfl; (repeat (with_reducible (first | exact At.head _ | apply At.tail))); exact hld.out; infer_instance; exact rfl; (simp only [Act.put, List.setIfInBounds_toArray, List.set_cons_succ, List.set_cons_zero])) | (go_at_call 13; go_must ((with_reducible refine (OC.out _ _ HO (by intro e he; repeat (first | exact he | apply List.mem_cons_of_mem))).mono ?_); rintro e w ⟨rfl, hb⟩; replace HO := HO.call hb; clear hb)) | (go_at_call 14; go_must ((with_reducible refine (BCm.out _ _ HO (by intro e he; repeat (first | exact he | apply List.mem_cons_of_mem))).mono ?_); rintro e w ⟨rfl, hb⟩; replace HO := HO.call hb; clear hb)))
                have hge : decide ((agL (es.map (·.x)) (j + 1)).length ≤ kk) = false := decide_eq_false (by omega)
                refine region_own HO (by kernel_rfl) (by kernel_rfl) ?_
                clear HO
                intro F HF
                repeat (first | (first | (simp only [hge]) | ((with_reducible apply wpQuiet_loadAt HF); exact rfl; exact rfl; exact (fun w' h1 => RW w' _ h1 (List.Mem.tail _ (List.Mem.head _))); infer_instance; exact rfl; exact rfl; (simp only [Act.put, List.setIfInBounds_toArray, List.set_cons_succ, List.set_cons_zero])) | ((with_reducible apply wpQuiet_loadOne HF); exact rfl; exact rfl; (repeat (with_reducible (first | exact At.head _ | apply At.tail))); exact hld.out; infer_instance; exact rfl; (simp only [Act.put, List.setIfInBounds_toArray, List.set_cons_succ, List.set_cons_zero]))) | go_big_quiet_step (fail))
                refine wpQuiet_nil ?_
                intro x
                have HO := HF.own x
                clear HF
                generalize F x = w at *
                clear x F
                go_wp2_with fail
                go_roundw
                case rel =>
                  refine ⟨m + 1, tv, by omega, by go_num, by rw [seeL_step_len, hbk.out, if_neg hb, hkk.out] <;> simp <;> (try unfold wrap64) <;> omega, htl, fun id h1 h2 => ?_, HO⟩
                  by_cases hid : id = m + 1
                  · subst hid
                    rw [htm.out, if_pos (Nat.le_refl _), hsm.out, if_neg hb]
                  · rw [htv.out id h1 h2]
                    by_cases hle : id ≤ m
                    · rw [if_pos hle, if_pos (by omega)]
                    · rw [if_neg hle, if_neg (by omega)]
                case measure => simp [intOf] <;> omega
          · have hme : m = (coreOf ((es.map (·.x)).take (j + 1))).1.L.length := by omega
            have hmI : ¬ (m : Int) + 1 ≤ ((coreOf ((es.map (·.x)).take (j + 1))).1.L.length : Int) := by omega
            have hkl : (seeL (agL (es.map (·.x)) j) ((j : Int) + 1) (coreOf ((es.map (·.x)).take (j + 1))).1.P m).length = (agL (es.map (·.x)) (j + 1)).length := by rw [hag.out, hme]
            rw [hkl]
            replace htv := Lib.hid htv
            replace hsv := Lib.hid hsv
            replace hme := Lib.hid hme
            clear hkl HSV HSE BC HCN hsee ok5 ok4 ok6 hac hll hag
            go_wp2_with (first | go_big_skip | (go_at_call 13; go_must ((with_reducible refine (OC.out _ _ HO (by intro e he; repeat (first | exact he | apply List.mem_cons_of_mem))).mono ?_); rintro e w ⟨rfl, hb⟩; replace HO := HO.call hb; clear hb)))
            go_roundw
            case rel =>
              refine ⟨j + 1, ⟨a.c, v9, a'.k, u', a'.pm, a'.bm⟩, i9, v8, tv, by omega, by go_num, rfl, htl, fun id h1 h2 => ?_, ?_⟩
              · rw [htv.out id h1 h2]
                by_cases hle : id ≤ m
                · rw [if_pos hle]
                · rw [if_neg hle, svF, if_neg (by rw [← hme.out]; omega)]
              · have h2 := HO.sub (L' := box b4 (.cells (tv.map (Value.int .i64)).toArray 29) :: N) (.cons_cons _ (.cons _ (List.Sublist.refl _)))
                rw [hN] at h2
                have h3 : Own W w ((agPs g ((j : Int) + 1) v8 (agL (es.map (·.x)) (j + 1)) ++ (coPs (⟨a.c, v9, a'.k, u', a'.pm, a'.bm⟩ : CoA) (coreOf ((es.map (·.x)).take (j + 1))).1 i9 (coreOf ((es.map (·.x)).take (j + 1))).2 ++ inPs i9 (coreOf ((es.map (·.x)).take (j + 1))).2)) ++ [box b4 (.cells (tv.map (Value.int .i64)).toArray 29)]) := h2.perm (List.perm_append_comm (l₁ := [box b4 (.cells (tv.map (Value.int .i64)).toArray 29)]) (l₂ := agPs g ((j : Int) + 1) v8 (agL (es.map (·.x)) (j + 1)) ++ (coPs (⟨a.c, v9, a'.k, u', a'.pm, a'.bm⟩ : CoA) (coreOf ((es.map (·.x)).take (j + 1))).1 i9 (coreOf ((es.map (·.x)).take (j + 1))).2 ++ inPs i9 (coreOf ((es.map (·.x)).take (j + 1))).2)))
                rw [List.append_assoc] at h3
                have h4 : Own W w ((coPs (⟨a.c, v9, a'.k, u', a'.pm, a'.bm⟩ : CoA) (coreOf ((es.map (·.x)).take (j + 1))).1 i9 (coreOf ((es.map (·.x)).take (j + 1))).2 ++ inPs i9 (coreOf ((es.map (·.x)).take (j + 1))).2) ++ (agPs g ((j : Int) + 1) v8 (agL (es.map (·.x)) (j + 1)) ++ [box b4 (.cells (tv.map (Value.int .i64)).toArray 29)])) := h3.perm (List.perm_append_comm_assoc _ _ _)
                rw [List.append_assoc] at h4
                exact h4
            case measure => simp [intOf] <;> omega
      · obtain rfl : j = es.length := by omega
        go_wp2_with (first | go_big_skip | (go_at_call 7; go_must ((with_reducible refine (AD _ HO.grown).mono ?_); rintro e w ⟨rfl, hb⟩; replace HO := HO.call hb; clear hb)))
        go_ret
        exact ⟨rfl, HO.grown⟩
end Go.Proofs.YtibabfedpdoofaaDoor
namespace Go.Own
open Go.RowKit Go.ChangeShapes Go.WideShapes Go.Deep

theorem five_of {l : List Value} (h : l.length = 5) : ∃ a b c d e, l = [a, b, c, d, e] := by
  match l, h with
  | [a, b, c, d, e], _ => exact ⟨a, b, c, d, e, rfl⟩
theorem three_of {l : List Value} (h : l.length = 3) : ∃ a b c, l = [a, b, c] := by
  match l, h with
  | [a, b, c], _ => exact ⟨a, b, c, rfl⟩
theorem addr_add (a : Addr) (m k : Nat) : a.add (m + k) = (a.add m).add k := by
  unfold Addr.add
  by_cases hm : m = 0
  · subst hm; simp
  · by_cases hk : k = 0
    · subst hk; simp [hm]
    · simp [hm, hk, Nat.add_assoc]
theorem addr_add1 (c : Addr) (k : Nat) : c.add (k + 1) = ⟨c.block, c.off + (k + 1), none⟩ := by simp [Addr.add]
/-- Structs of k cells that came in; f: a struct's cells; p: what is known of each. -/
theorem slice_of {H R : Type} [Inhabited R] {enc : TypeId × Value → H} {P : Program} {W : World} {base : Nat} {spare : Nat → Bool} {held : Bool} {fuel : Nat} {t e : TypeId} {cs : List Value} {x : DataW H × List MemPlace} {k : Nat} (f : R → List Value) (p : R → Prop)
    (ht : P.underlying t = some (.slice e)) (hk : P.cellsOf e = k) (hpos : 0 < k) (hf : ∀ r, (f r).length = k)
    (hel : ∀ (fuel' : Nat) (cs' : List Value) (x' : DataW H × List MemPlace), DataW.trod enc P W base spare held fuel' e cs' = some x' → cs'.length = k → ∃ r, cs' = f r ∧ p r)
    (h : DataW.trod enc P W base spare held fuel t cs = some x) : ∃ (v : Value) (L : List R), cs = [v] ∧ IsL W k v (L.map f) ∧ ∀ r ∈ L, p r := by
  rcases open_slice ht h with ⟨rfl, rfl⟩ | ⟨a, len, cap, m, n, D, Pl, rfl, hb, hl, hm, hmm, hx, hi⟩
  · exact ⟨_, [], rfl, .none _ _ (fun _ => rfl), by simp⟩
  · rw [hk] at hi
    have hlm : len ≤ m := by rw [hmm]; split <;> omega
    have hr : ∀ i, i < len → ∃ r : R, (∀ j (u : Value), (f r)[j]? = some u → W.cell? ((a.add (i * k)).add j) = some u) ∧ p r := fun i him => by
      obtain ⟨cs', hc, ht⟩ := hi i (by omega)
      obtain ⟨_, hlen, hg⟩ := World.cells?_some hc
      obtain ⟨r, rfl, hp⟩ := hel _ _ _ ht hlen
      refine ⟨r, fun j u hu => ?_, hp⟩
      have hj : j < k := by
        have := (List.getElem?_eq_some_iff.1 hu).1
        rwa [hf] at this
      rw [hg j hj]
      simpa using hu
    obtain ⟨G, hG⟩ := choose_lt (α := R) (p := fun i r => (∀ j (u : Value), (f r)[j]? = some u → W.cell? ((a.add (i * k)).add j) = some u) ∧ p r) hr
    refine ⟨_, (List.range len).map G, rfl, ?_, fun r hr => ?_⟩
    · by_cases h0 : len = 0
      · subst h0; exact .none _ _ (fun e => by cases e)
      have hL : (((List.range len).map G).map f).length = len := by simp
      have key : IsL W k (.slice (some a) (((List.range len).map G).map f).length cap) (((List.range len).map G).map f) := by
        refine .some a cap _ (by omega) hm (by omega) ⟨?_, fun i h j u hu => ?_⟩
        · have h1 : 0 < (f (G 0)).length := by rw [hf]; exact hpos
          have := World.block_lt_of_cell? W _ ((hG 0 (by omega)).1 0 _ (List.getElem?_eq_getElem h1))
          rwa [lBlock, lBlock] at this
        · rw [hL] at h
          simp only [List.getElem_map, List.getElem_range] at hu
          exact (hG i h).1 j u hu
      rwa [hL] at key
    · obtain ⟨i, hi', rfl⟩ := List.mem_map.1 hr
      exact (hG i (List.mem_range.1 hi')).2
theorem twelve {l : List Value} (h : l.length = 12) : ∃ a b c d e f g h i j k m, l = [a, b, c, d, e, f, g, h, i, j, k, m] := by
  match l, h with
  | [a, b, c, d, e, f, g, h, i, j, k, m], _ => exact ⟨a, b, c, d, e, f, g, h, i, j, k, m, rfl⟩
end Go.Own
namespace Go.Proofs.YtibabfedpdoofaaDoor
open Go.RowKit Go.Own Go.ChangeShapes Go.WideShapes Go.Deep

theorem cellsI64 : Tryd.prog.cellsOf 2 = 1 := by kernel_rfl
theorem cellsKey : Tryd.prog.cellsOf 35 = 2 := by kernel_rfl
theorem cellsStr : Tryd.prog.cellsOf 9 = 1 := by kernel_rfl
theorem cellsOrder : Tryd.prog.cellsOf 33 = 5 := by kernel_rfl
theorem cellsStmt : Tryd.prog.cellsOf 38 = 3 := by kernel_rfl
theorem cellsEnt : Tryd.prog.cellsOf 40 = 12 := by kernel_rfl
theorem cellsRow : Tryd.prog.cellsOf 73 = 5 := by kernel_rfl
theorem cellsRows : Tryd.prog.cellsOf 36 = 1 := by kernel_rfl
set_option maxRecDepth 100000 in
theorem row_of {H : Type} {enc : TypeId × Value → H} {W : World} {base : Nat} {spare : Nat → Bool} {held : Bool} {fuel : Nat} {cs : List Value} {x : DataW H × List MemPlace}
    (h : DataW.trod enc Tryd.prog W base spare held fuel 73 cs = some x) (hl : cs.length = 5) : ∃ r : RowS, cs = r.cells.toList := by
  obtain ⟨a, b, c, d, e, rfl⟩ := five_of hl
  obtain ⟨_, _, hk⟩ := fld Tryd.underlying73 h 0 _ rfl
  obtain ⟨_, _, h1⟩ := fld Tryd.underlying73 h 1 _ rfl
  obtain ⟨_, _, h2⟩ := fld Tryd.underlying73 h 2 _ rfl
  obtain ⟨_, _, h3⟩ := fld Tryd.underlying73 h 3 _ rfl
  obtain ⟨_, _, k0⟩ := fld Tryd.underlying35 hk 0 _ rfl
  obtain ⟨_, _, k1⟩ := fld Tryd.underlying35 hk 1 _ rfl
  obtain ⟨n1, e1, _, _⟩ := DataW.trod_int Tryd.underlying3 k0
  obtain ⟨n2, e2, _, _⟩ := DataW.trod_int Tryd.underlying3 k1
  obtain ⟨n3, e3, _, _⟩ := DataW.trod_int Tryd.underlying3 h1
  obtain ⟨n4, e4, _, _⟩ := DataW.trod_int Tryd.underlying2 h2
  obtain ⟨n5, e5, _, _⟩ := DataW.trod_int Tryd.underlying3 h3
  simp [cellsInt, cellsI64, cellsKey] at e1 e2 e3 e4 e5
  subst e1 e2 e3 e4 e5
  exact ⟨⟨n1, n2, n3, n4, n5⟩, rfl⟩
instance : Inhabited RowS := ⟨⟨0, 0, 0, 0, 0⟩⟩
set_option maxRecDepth 100000 in
/-- Rows that came in. -/
theorem rows_of {H : Type} {enc : TypeId × Value → H} {W : World} {base : Nat} {spare : Nat → Bool} {held : Bool} {fuel : Nat} {cs : List Value} {x : DataW H × List MemPlace}
    (h : DataW.trod enc Tryd.prog W base spare held fuel 36 cs = some x) : ∃ v rs, cs = [v] ∧ IsRows W v rs := by
  rcases open_slice Tryd.underlying36 h with ⟨rfl, rfl⟩ | ⟨a, len, cap, m, n, D, Pl, rfl, hb, hl, hm, hmm, hx, hi⟩
  · exact ⟨_, [], rfl, .none _ _ (fun _ => rfl)⟩
  · rw [cellsRow] at hi
    have hlm : len ≤ m := by rw [hmm]; split <;> omega
    have hr : ∀ i, i < len → ∃ r : RowS, ∀ k (u : Value), r.cells[k]? = some u → W.cell? ((a.add (i * 5)).add k) = some u := fun i him => by
      obtain ⟨cs', hc, ht⟩ := hi i (by omega)
      obtain ⟨_, hlen, hg⟩ := World.cells?_some hc
      obtain ⟨r, rfl⟩ := row_of ht hlen
      refine ⟨r, fun k u hu => ?_⟩
      have hk : k < 5 := by
        have := (Array.getElem?_eq_some_iff.1 hu).1
        simpa [RowS.cells] using this
      rw [hg k hk]
      simpa using hu
    obtain ⟨R, hR⟩ := choose_lt (α := RowS) (p := fun i r => ∀ k (u : Value), r.cells[k]? = some u → W.cell? ((a.add (i * 5)).add k) = some u) hr
    refine ⟨_, (List.range len).map R, rfl, ?_⟩
    by_cases h0 : len = 0
    · subst h0; exact .none _ _ (fun e => by cases e)
    have hL : ((List.range len).map R).length = len := by simp
    have key : IsRows W (.slice (some a) ((List.range len).map R).length cap) ((List.range len).map R) := by
      refine .some a cap _ (by omega) hm (by omega) ⟨?_, fun i h => ?_, fun i h => ?_, fun i h => ?_, fun i h => ?_, fun i h => ?_⟩
      · have := World.block_lt_of_cell? W _ (hR 0 (by omega) 0 _ rfl)
        rwa [add_block, add_block] at this
      all_goals
        rw [hL] at h
        simp only [List.getElem_map, List.getElem_range]
      · exact hR i h 0 _ rfl
      · rw [← addr_add1]; exact hR i h 1 _ rfl
      · rw [← addr_add1]; exact hR i h 2 _ rfl
      · rw [← addr_add1]; exact hR i h 3 _ rfl
      · rw [← addr_add1]; exact hR i h 4 _ rfl
    rwa [hL] at key
theorem wf_inI {n : Int} (h : (Lit.int .i64 n).wf = true) : inI n = true := by
  simp [Lit.wf, IntKind.min, IntKind.max, IntKind.bits, IntKind.signed] at h
  exact inI_iff.2 (by omega)
instance : Inhabited EntI := ⟨⟨⟨0, 0, [], [], 0, 0, 0, 0, 0, 0, 0, []⟩, .slice none 0 0⟩⟩
set_option maxRecDepth 100000 in
set_option maxHeartbeats 4000000 in
theorem entCells_of {H : Type} {enc : TypeId × Value → H} {W : World} {base : Nat} {spare : Nat → Bool} {held : Bool} {fuel : Nat} {cs : List Value} {x : DataW H × List MemPlace}
    (hf : DataW.trod enc Tryd.prog W base spare held fuel 40 cs = some x) (hl : cs.length = 12) : ∃ e : EntI, cs = entC e ∧ IsRows W e.v e.x.rs ∧ e.x.ref.length ≤ maxLen ∧ e.x.sku.length ≤ maxLen ∧ inI e.x.o = true := by
  obtain ⟨a, b, c, d, e, f, g, h', i, j, k, m, rfl⟩ := twelve hl
  obtain ⟨_, _, h0⟩ := fld Tryd.underlying40 hf 0 _ rfl
  obtain ⟨_, _, ho⟩ := fld Tryd.underlying40 hf 1 _ rfl
  obtain ⟨_, _, hk⟩ := fld Tryd.underlying40 hf 2 _ rfl
  obtain ⟨_, _, h8⟩ := fld Tryd.underlying40 hf 3 _ rfl
  obtain ⟨_, _, hs⟩ := fld Tryd.underlying40 hf 4 _ rfl
  obtain ⟨_, _, h1⟩ := fld Tryd.underlying33 ho 0 _ rfl
  obtain ⟨_, _, h2⟩ := fld Tryd.underlying33 ho 1 _ rfl
  obtain ⟨_, _, h3⟩ := fld Tryd.underlying33 ho 2 _ rfl
  obtain ⟨_, _, h4⟩ := fld Tryd.underlying33 ho 3 _ rfl
  obtain ⟨_, _, h5⟩ := fld Tryd.underlying33 ho 4 _ rfl
  obtain ⟨_, _, h6⟩ := fld Tryd.underlying35 hk 0 _ rfl
  obtain ⟨_, _, h7⟩ := fld Tryd.underlying35 hk 1 _ rfl
  obtain ⟨_, _, h9⟩ := fld Tryd.underlying38 hs 0 _ rfl
  obtain ⟨_, _, h10⟩ := fld Tryd.underlying38 hs 1 _ rfl
  obtain ⟨_, _, h11⟩ := fld Tryd.underlying38 hs 2 _ rfl
  obtain ⟨n0, e0, _, _⟩ := DataW.trod_int Tryd.underlying3 h0
  obtain ⟨n1, e1, _, _⟩ := DataW.trod_int Tryd.underlying3 h1
  obtain ⟨s2, e2, _, l2⟩ := DataW.trod_string Tryd.underlying9 h2
  obtain ⟨s3, e3, _, l3⟩ := DataW.trod_string Tryd.underlying9 h3
  obtain ⟨n4, e4, _, _⟩ := DataW.trod_int Tryd.underlying3 h4
  obtain ⟨n5, e5, _, _⟩ := DataW.trod_int Tryd.underlying2 h5
  obtain ⟨n6, e6, _, w6⟩ := DataW.trod_int Tryd.underlying3 h6
  obtain ⟨n7, e7, _, _⟩ := DataW.trod_int Tryd.underlying3 h7
  obtain ⟨n8, e8, _, _⟩ := DataW.trod_int Tryd.underlying3 h8
  obtain ⟨n9, e9, _, _⟩ := DataW.trod_int Tryd.underlying3 h9
  obtain ⟨n10, e10, _, _⟩ := DataW.trod_int Tryd.underlying3 h10
  obtain ⟨u, rs, e11, hu⟩ := rows_of h11
  simp [cellsInt, cellsI64, cellsStr, cellsKey, cellsOrder, cellsStmt, cellsRows] at e0 e1 e2 e3 e4 e5 e6 e7 e8 e9 e10 e11
  subst e0 e1 e2 e3 e4 e5 e6 e7 e8 e9 e10 e11
  exact ⟨⟨⟨n0, n1, s2.data.toList, s3.data.toList, n4, n5, n6, n7, n8, n9, n10, rs⟩, _⟩, by simp [entC], hu, by simpa using l2, by simpa using l3, wf_inI w6⟩
set_option maxRecDepth 100000 in
theorem ents_of {H : Type} {enc : TypeId × Value → H} {W : World} {base : Nat} {spare : Nat → Bool} {held : Bool} {v : Value} {d : DataW H} {p : List MemPlace}
    (h : DataW.Trod enc Tryd.prog W base spare held 22 v d p) (hv : v.cells.toList = [v]) : ∃ es : List EntI, IsEnts W v es := by
  obtain ⟨fuel, hf⟩ := h
  obtain ⟨u, es, e, hI, hw⟩ := slice_of entC (fun e => IsRows W e.v e.x.rs ∧ e.x.ref.length ≤ maxLen ∧ e.x.sku.length ≤ maxLen ∧ inI e.x.o = true) Tryd.underlying22 cellsEnt (by decide) (fun _ => rfl) (fun _ _ _ h hl => entCells_of h hl) hf
  rw [hv] at e
  obtain rfl : v = u := by simpa using e
  exact ⟨es, ⟨hI, hw⟩⟩
end Go.Proofs.YtibabfedpdoofaaDoor

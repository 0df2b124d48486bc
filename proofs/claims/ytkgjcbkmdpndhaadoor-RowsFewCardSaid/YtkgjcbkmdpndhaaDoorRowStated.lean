/-
  The chapter's statement, by walking the text: true; conditions: the table of parties as laid.
-/
import Derived.Test.YtkgjcbkmdpndhaaDoorRowPut
namespace Go.Proofs.YtkgjcbkmdpndhaaDoor
open Go.RowKit Go.Own

theorem rowsAt_of {w : World} {A : Nat} {rs : List RowS} (h : w.heap[A]? = some (.cells (rs.flatMap fun r => r.cells.toList).toArray 46 (0, 0))) : RowsAt w ⟨A, 0, none⟩ rs := by
  have key : ∀ (l : List RowS) (i k : Nat), i < l.length → k < 5 → (l.flatMap fun r => r.cells.toList)[i * 5 + k]? = (l[i]?).bind fun r => r.cells[k]? := by
    intro l
    induction l with
    | nil => intro i k hi; simp at hi
    | cons r l ih =>
      intro i k hi hk
      have hs : r.cells.toList.length = 5 := by simp [RowS.cells]
      rcases i with _ | i
      · rw [List.flatMap_cons, List.getElem?_append_left (by omega)]
        simp
      · rw [List.flatMap_cons, List.getElem?_append_right (by omega), hs]
        have := ih i k (by simpa using hi) hk
        rw [show (i + 1) * 5 + k - 5 = i * 5 + k by omega]
        simpa using this
  have hadd : ∀ n, (⟨A, 0, none⟩ : Addr).add n = ⟨A, n, none⟩ := fun n => by unfold Addr.add; split <;> simp_all
  have cell : ∀ i (hi : i < rs.length) k, k < 5 → w.cell? ⟨A, i * 5 + k, none⟩ = rs[i].cells[k]? := by
    intro i hi k hk
    rw [cell_of_row w A (i * 5 + k) _ _ (0, 0) h]
    have := key rs i k hi hk
    rw [List.getElem?_eq_getElem hi] at this
    simpa using this
  refine ⟨lt_of_block h, fun i hi => ?_, fun i hi => ?_, fun i hi => ?_, fun i hi => ?_, fun i hi => ?_⟩
  all_goals simp only [hadd]
  · exact cell i hi 0 (by decide)
  · exact cell i hi 1 (by decide)
  · exact cell i hi 2 (by decide)
  · exact cell i hi 3 (by decide)
  · exact cell i hi 4 (by decide)
theorem isRows_one {w : World} {A : Nat} {r : RowS} (h : w.heap[A]? = some (.cells r.cells 46 (0, 0))) : IsRows w (.slice (some ⟨A, 0, none⟩) 1 1) [r] :=
  .some ⟨A, 0, none⟩ 1 [r] (by simp) (by decide) (by simp) (rowsAt_of (by simpa using h))
theorem isRows_two {w : World} {A : Nat} {r s : RowS} (h : w.heap[A]? = some (.cells (r.cells ++ s.cells) 46 (0, 0))) : IsRows w (.slice (some ⟨A, 0, none⟩) 2 2) [r, s] :=
  .some ⟨A, 0, none⟩ 2 [r, s] (by simp) (by decide) (by simp) (rowsAt_of (by rw [h]; simp [RowS.cells]))

def rOne : RowS := ⟨3, 1, 1, 300, 0⟩
def rTwo : RowS := ⟨3, 4, 1, 300, 0⟩
def rNone : RowS := ⟨3, 1, 0, 300, 0⟩
theorem st1 : putStmt 0 5 [rOne] = [0, 5, 1, 3, 1, 1, 172, 2, 0] := by decide +kernel
theorem st2 : netOf [rOne] 3 = 300 := by decide +kernel
theorem st3 : netOf [rOne, rTwo] 3 = 0 := by decide +kernel
theorem st4 : netOf [rOne] 4 = 0 := by decide +kernel
theorem st5 : chkRows [rOne] 1 = false := by decide +kernel
theorem st6 : chkRows [rNone] 0 = false := by decide +kernel
theorem st7 : chkRows [] 3 = false := by decide +kernel
theorem st8 : chkRows [rOne] 0 = true := by decide +kernel

set_option maxHeartbeats 4000000 in
set_option maxRecDepth 100000 in
theorem stated12_any (w : World) (hL : Laid w) : Calls Tryd.prog 19 #[] w fun e w' => e = .returned (.bool true) ∧ Below w.heap.size w w' := by
  have HL := Lib.hid hL
  have hpos : 0 < w.heap.size := hL.1
  clear hL
  have hI : IsRows ((((w.alloc (Obj.cells #[.int .i64 3, .int .i64 1, .int .i64 1, .int .i64 300, .int .i64 0] 46)).alloc (Obj.cells #[.int .i64 3, .int .i64 4, .int .i64 1, .int .i64 300, .int .i64 0] 46)).alloc (Obj.cells #[.int .i64 3, .int .i64 1, .int .i64 0, .int .i64 300, .int .i64 0] 46)).alloc (Obj.cells #[.int .i64 3, .int .i64 1, .int .i64 1, .int .i64 300, .int .i64 0] 46)) (.slice (some ⟨w.heap.size + 1 + 1 + 1, 0, none⟩) 1 1) [rOne] :=
    isRows_one (by have := heap_alloc_new (((w.alloc (Obj.cells #[.int .i64 3, .int .i64 1, .int .i64 1, .int .i64 300, .int .i64 0] 46)).alloc (Obj.cells #[.int .i64 3, .int .i64 4, .int .i64 1, .int .i64 300, .int .i64 0] 46)).alloc (Obj.cells #[.int .i64 3, .int .i64 1, .int .i64 0, .int .i64 300, .int .i64 0] 46)) (Obj.cells #[.int .i64 3, .int .i64 1, .int .i64 1, .int .i64 300, .int .i64 0] 46); simpa [RowS.cells, rOne] using this)
  have hV : VRows (.slice (some ⟨w.heap.size + 1 + 1 + 1, 0, none⟩) 1 1) (w.heap.size + 1 + 1 + 1 + 1) := fun a n c e => by cases e; simp
  have I1 := Lib.hid (fun W (hb : Below (w.heap.size + 1 + 1 + 1 + 1) ((((w.alloc (Obj.cells #[.int .i64 3, .int .i64 1, .int .i64 1, .int .i64 300, .int .i64 0] 46)).alloc (Obj.cells #[.int .i64 3, .int .i64 4, .int .i64 1, .int .i64 300, .int .i64 0] 46)).alloc (Obj.cells #[.int .i64 3, .int .i64 1, .int .i64 0, .int .i64 300, .int .i64 0] 46)).alloc (Obj.cells #[.int .i64 3, .int .i64 1, .int .i64 1, .int .i64 300, .int .i64 0] 46)) W) => hI.below hb hV)
  clear hI hV
  have P1 := fun W (hb : Below (w.heap.size + 1 + 1 + 1 + 1) ((((w.alloc (Obj.cells #[.int .i64 3, .int .i64 1, .int .i64 1, .int .i64 300, .int .i64 0] 46)).alloc (Obj.cells #[.int .i64 3, .int .i64 4, .int .i64 1, .int .i64 300, .int .i64 0] 46)).alloc (Obj.cells #[.int .i64 3, .int .i64 1, .int .i64 0, .int .i64 300, .int .i64 0] 46)).alloc (Obj.cells #[.int .i64 3, .int .i64 1, .int .i64 1, .int .i64 300, .int .i64 0] 46)) W) h => putStmt_any 0 5 (I1.out W hb) h
  have N1 := fun W (hb : Below (w.heap.size + 1 + 1 + 1 + 1) ((((w.alloc (Obj.cells #[.int .i64 3, .int .i64 1, .int .i64 1, .int .i64 300, .int .i64 0] 46)).alloc (Obj.cells #[.int .i64 3, .int .i64 4, .int .i64 1, .int .i64 300, .int .i64 0] 46)).alloc (Obj.cells #[.int .i64 3, .int .i64 1, .int .i64 0, .int .i64 300, .int .i64 0] 46)).alloc (Obj.cells #[.int .i64 3, .int .i64 1, .int .i64 1, .int .i64 300, .int .i64 0] 46)) W) h => net_any 3 (I1.out W hb) h
  have N4 := fun W (hb : Below (w.heap.size + 1 + 1 + 1 + 1) ((((w.alloc (Obj.cells #[.int .i64 3, .int .i64 1, .int .i64 1, .int .i64 300, .int .i64 0] 46)).alloc (Obj.cells #[.int .i64 3, .int .i64 4, .int .i64 1, .int .i64 300, .int .i64 0] 46)).alloc (Obj.cells #[.int .i64 3, .int .i64 1, .int .i64 0, .int .i64 300, .int .i64 0] 46)).alloc (Obj.cells #[.int .i64 3, .int .i64 1, .int .i64 1, .int .i64 300, .int .i64 0] 46)) W) h => net_any 4 (I1.out W hb) h
  have C1 := fun W (hb : Below (w.heap.size + 1 + 1 + 1 + 1) ((((w.alloc (Obj.cells #[.int .i64 3, .int .i64 1, .int .i64 1, .int .i64 300, .int .i64 0] 46)).alloc (Obj.cells #[.int .i64 3, .int .i64 4, .int .i64 1, .int .i64 300, .int .i64 0] 46)).alloc (Obj.cells #[.int .i64 3, .int .i64 1, .int .i64 0, .int .i64 300, .int .i64 0] 46)).alloc (Obj.cells #[.int .i64 3, .int .i64 1, .int .i64 1, .int .i64 300, .int .i64 0] 46)) W) h => rowsCheck_any 1 (I1.out W hb) h
  have C0 := fun W (hb : Below (w.heap.size + 1 + 1 + 1 + 1) ((((w.alloc (Obj.cells #[.int .i64 3, .int .i64 1, .int .i64 1, .int .i64 300, .int .i64 0] 46)).alloc (Obj.cells #[.int .i64 3, .int .i64 4, .int .i64 1, .int .i64 300, .int .i64 0] 46)).alloc (Obj.cells #[.int .i64 3, .int .i64 1, .int .i64 0, .int .i64 300, .int .i64 0] 46)).alloc (Obj.cells #[.int .i64 3, .int .i64 1, .int .i64 1, .int .i64 300, .int .i64 0] 46)) W) h => rowsCheck_any 0 (I1.out W hb) h
  have N2 := fun (W : World) A (hA : W.heap[A]? = _) h => net_any 3 (isRows_two (w := W) (r := rOne) (s := rTwo) (A := A) hA) h
  have C2 := fun (W : World) A (hA : W.heap[A]? = _) h => rowsCheck_any 0 (isRows_one (w := W) (r := rNone) (A := A) hA) h
  have C3 := fun w => rowsCheck_nil none 0 3 w
  rw [st1] at P1
  rw [st2] at N1
  rw [st4] at N4
  rw [st5] at C1
  rw [st8] at C0
  rw [st3] at N2
  rw [st6] at C2
  rw [st7] at C3
  go_enter Tryd.func19, Tryd.ntmps19
  go_wp2_with (first
    | (go_at_call 24; go_must ((with_reducible refine (P1 _ (by with_reducible (repeat (first | assumption | exact Below.refl _ _ | refine Below.drew ?_ | refine below_drewN ?_ _ | refine Below.alloc ?_ (by first | (simp; done) | omega | (simp; omega)) _ | refine Below.setCell ?_ (by first | (simp; done) | omega | (simp; omega)) _ | refine Below.trans ?_ (Below.mono (by assumption) (by first | (simp; done) | omega | (simp; omega)))))) (HL.out.below (by with_reducible (repeat (first | assumption | exact Below.refl _ _ | refine Below.drew ?_ | refine below_drewN ?_ _ | refine Below.alloc ?_ (by first | (simp; done) | omega | (simp; omega)) _ | refine Below.setCell ?_ (by first | (simp; done) | omega | (simp; omega)) _ | refine Below.trans ?_ (Below.mono (by assumption) (by first | (simp; done) | omega | (simp; omega)))))) hpos)).mono ?_); rintro e w1 ⟨rfl, hb⟩; obtain ⟨hc, hf⟩ := bcell hb; have hz := hb.size; (try simp at hz); (try have hzT := Nat.lt_of_succ_le hz); have hzA : w.heap.size < w1.heap.size := (by omega); have hzB : w.heap.size + 1 < w1.heap.size := (by omega); have hzC : w.heap.size + 1 + 1 < w1.heap.size := (by omega); have hzD : w.heap.size + 1 + 1 + 1 < w1.heap.size := (by omega); have hzA2 := Nat.le_of_lt hzA; have hzB2 := Nat.le_of_lt hzB; have hzC2 := Nat.le_of_lt hzC; have hzD2 := Nat.le_of_lt hzD))
    | (go_at_call 26; go_must ((first | (with_reducible refine (N1 _ (by with_reducible (repeat (first | assumption | exact Below.refl _ _ | refine Below.drew ?_ | refine below_drewN ?_ _ | refine Below.alloc ?_ (by first | (simp; done) | omega | (simp; omega)) _ | refine Below.setCell ?_ (by first | (simp; done) | omega | (simp; omega)) _ | refine Below.trans ?_ (Below.mono (by assumption) (by first | (simp; done) | omega | (simp; omega)))))) (HL.out.below (by with_reducible (repeat (first | assumption | exact Below.refl _ _ | refine Below.drew ?_ | refine below_drewN ?_ _ | refine Below.alloc ?_ (by first | (simp; done) | omega | (simp; omega)) _ | refine Below.setCell ?_ (by first | (simp; done) | omega | (simp; omega)) _ | refine Below.trans ?_ (Below.mono (by assumption) (by first | (simp; done) | omega | (simp; omega)))))) hpos)).mono ?_) | (with_reducible refine (N4 _ (by with_reducible (repeat (first | assumption | exact Below.refl _ _ | refine Below.drew ?_ | refine below_drewN ?_ _ | refine Below.alloc ?_ (by first | (simp; done) | omega | (simp; omega)) _ | refine Below.setCell ?_ (by first | (simp; done) | omega | (simp; omega)) _ | refine Below.trans ?_ (Below.mono (by assumption) (by first | (simp; done) | omega | (simp; omega)))))) (HL.out.below (by with_reducible (repeat (first | assumption | exact Below.refl _ _ | refine Below.drew ?_ | refine below_drewN ?_ _ | refine Below.alloc ?_ (by first | (simp; done) | omega | (simp; omega)) _ | refine Below.setCell ?_ (by first | (simp; done) | omega | (simp; omega)) _ | refine Below.trans ?_ (Below.mono (by assumption) (by first | (simp; done) | omega | (simp; omega)))))) hpos)).mono ?_) | (refine (N2 _ _ (by have := fun w o => heap_alloc_new w o; simpa [RowS.cells, rOne, rTwo] using this _ _) (HL.out.below (by with_reducible (repeat (first | assumption | exact Below.refl _ _ | refine Below.drew ?_ | refine below_drewN ?_ _ | refine Below.alloc ?_ (by first | (simp; done) | omega | (simp; omega)) _ | refine Below.setCell ?_ (by first | (simp; done) | omega | (simp; omega)) _ | refine Below.trans ?_ (Below.mono (by assumption) (by first | (simp; done) | omega | (simp; omega)))))) hpos)).mono ?_)); rintro e w1 ⟨rfl, hb⟩; obtain ⟨hc, hf⟩ := bcell hb; have hz := hb.size; (try simp at hz); (try have hzT := Nat.lt_of_succ_le hz); have hzA : w.heap.size < w1.heap.size := (by omega); have hzB : w.heap.size + 1 < w1.heap.size := (by omega); have hzC : w.heap.size + 1 + 1 < w1.heap.size := (by omega); have hzD : w.heap.size + 1 + 1 + 1 < w1.heap.size := (by omega); have hzA2 := Nat.le_of_lt hzA; have hzB2 := Nat.le_of_lt hzB; have hzC2 := Nat.le_of_lt hzC; have hzD2 := Nat.le_of_lt hzD))
    | (go_at_call 20; go_must ((first | (with_reducible refine (C3 _).mono ?_) | (with_reducible refine (C1 _ (by with_reducible (repeat (first | assumption | exact Below.refl _ _ | refine Below.drew ?_ | refine below_drewN ?_ _ | refine Below.alloc ?_ (by first | (simp; done) | omega | (simp; omega)) _ | refine Below.setCell ?_ (by first | (simp; done) | omega | (simp; omega)) _ | refine Below.trans ?_ (Below.mono (by assumption) (by first | (simp; done) | omega | (simp; omega)))))) (HL.out.below (by with_reducible (repeat (first | assumption | exact Below.refl _ _ | refine Below.drew ?_ | refine below_drewN ?_ _ | refine Below.alloc ?_ (by first | (simp; done) | omega | (simp; omega)) _ | refine Below.setCell ?_ (by first | (simp; done) | omega | (simp; omega)) _ | refine Below.trans ?_ (Below.mono (by assumption) (by first | (simp; done) | omega | (simp; omega)))))) hpos)).mono ?_) | (with_reducible refine (C0 _ (by with_reducible (repeat (first | assumption | exact Below.refl _ _ | refine Below.drew ?_ | refine below_drewN ?_ _ | refine Below.alloc ?_ (by first | (simp; done) | omega | (simp; omega)) _ | refine Below.setCell ?_ (by first | (simp; done) | omega | (simp; omega)) _ | refine Below.trans ?_ (Below.mono (by assumption) (by first | (simp; done) | omega | (simp; omega)))))) (HL.out.below (by with_reducible (repeat (first | assumption | exact Below.refl _ _ | refine Below.drew ?_ | refine below_drewN ?_ _ | refine Below.alloc ?_ (by first | (simp; done) | omega | (simp; omega)) _ | refine Below.setCell ?_ (by first | (simp; done) | omega | (simp; omega)) _ | refine Below.trans ?_ (Below.mono (by assumption) (by first | (simp; done) | omega | (simp; omega)))))) hpos)).mono ?_) | (refine (C2 _ _ (by have := fun w o => heap_alloc_new w o; simpa [RowS.cells, rNone] using this _ _) (HL.out.below (by with_reducible (repeat (first | assumption | exact Below.refl _ _ | refine Below.drew ?_ | refine below_drewN ?_ _ | refine Below.alloc ?_ (by first | (simp; done) | omega | (simp; omega)) _ | refine Below.setCell ?_ (by first | (simp; done) | omega | (simp; omega)) _ | refine Below.trans ?_ (Below.mono (by assumption) (by first | (simp; done) | omega | (simp; omega)))))) hpos)).mono ?_)); rintro e w1 ⟨rfl, hb⟩; obtain ⟨hc, hf⟩ := bcell hb; have hz := hb.size; (try simp at hz); (try have hzT := Nat.lt_of_succ_le hz); have hzA : w.heap.size < w1.heap.size := (by omega); have hzB : w.heap.size + 1 < w1.heap.size := (by omega); have hzC : w.heap.size + 1 + 1 < w1.heap.size := (by omega); have hzD : w.heap.size + 1 + 1 + 1 < w1.heap.size := (by omega); have hzA2 := Nat.le_of_lt hzA; have hzB2 := Nat.le_of_lt hzB; have hzC2 := Nat.le_of_lt hzC; have hzD2 := Nat.le_of_lt hzD)))
  go_ret
  exact ⟨rfl, (by with_reducible (repeat (first | assumption | exact Below.refl _ _ | refine Below.drew ?_ | refine below_drewN ?_ _ | refine Below.alloc ?_ (by first | (simp; done) | omega | (simp; omega)) _ | refine Below.setCell ?_ (by first | (simp; done) | omega | (simp; omega)) _ | refine Below.trans ?_ (Below.mono (by assumption) (by first | (simp; done) | omega | (simp; omega))))))⟩
end Go.Proofs.YtkgjcbkmdpndhaaDoor

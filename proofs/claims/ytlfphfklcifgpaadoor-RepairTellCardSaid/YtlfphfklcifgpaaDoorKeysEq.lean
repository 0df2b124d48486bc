/-
  Whether two lists of keys are the same, by walking the law's text; conditions: they lie in memory.
-/
import Derived.Test.YtlfphfklcifgpaaDoorPlan
namespace Go.Proofs.YtlfphfklcifgpaaDoor
open Go.RowKit Go.Own

theorem run_key_neq (a b a' b' : Int) (w : World) : (binOp .neq 43 (.agg #[.int .i64 a, .int .i64 b]) (.agg #[.int .i64 a', .int .i64 b'])).run Tryd.prog w = .ok (.bool (!(decide (a = a') && decide (b = b')))) w := by
  go_simp
  (repeat' split) <;> simp_all
theorem keysEq_no {A B : List (Int × Int)} (h : A ≠ B) : decide (A = B) = false := decide_eq_false h

set_option maxHeartbeats 2000000 in
set_option maxRecDepth 100000 in
theorem keysEq_any {w : World} {v v' : Value} {A B : List (Int × Int)} (h : IsL w 2 v (A.map keyL)) (h' : IsL w 2 v' (B.map keyL)) :
    Calls Tryd.prog 25 #[v, v'] w fun e w' => e = .returned (.bool (decide (A = B))) ∧ Below w.heap.size w w' := by
  by_cases hl : A.length = B.length
  rotate_left
  · obtain ⟨sp, sc, rfl, _⟩ := h.slice
    obtain ⟨sp', sc', rfl, _⟩ := h'.slice
    clear h h'
    simp only [List.length_map]
    have hln : ((A.length : Int) != (B.length : Int)) = true := by simp; omega
    have HQ := Lib.hid (keysEq_no (A := A) (B := B) (fun h => hl (by rw [h])))
    clear hl
    go_enter Tryd.func25, Tryd.ntmps25
    go_wp2_with fail
    go_ret
    exact ⟨by rw [HQ.out]; rfl, (by with_reducible (repeat (first | assumption | exact Below.refl _ _ | refine Below.drew ?_ | refine below_drewN ?_ _ | refine Below.alloc ?_ (by first | (simp; done) | omega | (simp; omega)) _ | refine Below.setCell ?_ (by first | (simp; done) | omega | (simp; omega)) _ | refine Below.trans ?_ (Below.mono (by assumption) (by first | (simp; done) | omega | (simp; omega))))))⟩
  by_cases h0 : A.length = 0
  · obtain rfl : A = [] := by simpa using h0
    obtain rfl : B = [] := by simpa using hl.symm
    obtain ⟨sp, sc, rfl, _⟩ := h.slice
    obtain ⟨sp', sc', rfl, _⟩ := h'.slice
    clear h h' h0 hl
    simp only [List.map_nil, List.length_nil]
    go_enter Tryd.func25, Tryd.ntmps25
    go_wp2_with fail
    go_loopw [5] (fun k wr => k = .int .i64 0 ∧ Below w.heap.size w wr) (fun k _ => 0)
    case atStart => exact ⟨rfl, (by with_reducible (repeat (first | assumption | exact Below.refl _ _ | refine Below.drew ?_ | refine below_drewN ?_ _ | refine Below.alloc ?_ (by first | (simp; done) | omega | (simp; omega)) _ | refine Below.setCell ?_ (by first | (simp; done) | omega | (simp; omega)) _ | refine Below.trans ?_ (Below.mono (by assumption) (by first | (simp; done) | omega | (simp; omega))))))⟩
    case round =>
      obtain ⟨rfl, hbr⟩ := hrel
      go_wp2_with fail
      go_ret
      exact ⟨by rfl, (by with_reducible (repeat (first | assumption | exact Below.refl _ _ | refine Below.drew ?_ | refine below_drewN ?_ _ | refine Below.alloc ?_ (by first | (simp; done) | omega | (simp; omega)) _ | refine Below.setCell ?_ (by first | (simp; done) | omega | (simp; omega)) _ | refine Below.trans ?_ (Below.mono (by assumption) (by first | (simp; done) | omega | (simp; omega))))))⟩
  · obtain ⟨a, cap, rfl, hlen, hcap, hR⟩ := h.at (by simpa using Nat.pos_of_ne_zero h0)
    obtain ⟨a', cap', rfl, hlen', hcap', hR'⟩ := h'.at (by simp; omega)
    have HR := Lib.hid hR
    have HR' := Lib.hid hR'
    have hlt := hR.lt
    have hlt' := hR'.lt
    simp only [List.length_map] at hlen hlen' ⊢
    have hmx : (A.length : Int) ≤ 9223372036854775807 := by unfold maxLen at hcap; omega
    clear h h' hR hR'
    generalize hn' : B.length = n' at *
    have HN := Lib.hid hn'
    subst hl
    clear hn'
    go_enter Tryd.func25, Tryd.ntmps25
    go_wp2_with fail
    go_loopw [5] (fun k wr => ∃ j : Nat, j ≤ A.length ∧ k = .int .i64 (j : Int) ∧ A.take j = B.take j ∧ Below w.heap.size w wr) (fun k _ => (A.length - (intOf k).toNat))
    case atStart => exact ⟨0, by omega, rfl, rfl, (by with_reducible (repeat (first | assumption | exact Below.refl _ _ | refine Below.drew ?_ | refine below_drewN ?_ _ | refine Below.alloc ?_ (by first | (simp; done) | omega | (simp; omega)) _ | refine Below.setCell ?_ (by first | (simp; done) | omega | (simp; omega)) _ | refine Below.trans ?_ (Below.mono (by assumption) (by first | (simp; done) | omega | (simp; omega))))))⟩
    case round =>
      obtain ⟨j, hj, rfl, hok, hbw⟩ := hrel
      have hz := hbw.size
      by_cases hjl : j = A.length
      · have HQ := Lib.hid (show decide (A = B) = true by
          have e1 := hok
          rw [List.take_of_length_le (by omega), List.take_of_length_le (by have := HN.out; omega)] at e1
          simp [e1])
        subst hjl
        clear hok
        go_wp2_with fail
        go_ret
        exact ⟨by rw [HQ.out]; rfl, (by with_reducible (repeat (first | assumption | exact Below.refl _ _ | refine Below.drew ?_ | refine below_drewN ?_ _ | refine Below.alloc ?_ (by first | (simp; done) | omega | (simp; omega)) _ | refine Below.setCell ?_ (by first | (simp; done) | omega | (simp; omega)) _ | refine Below.trans ?_ (Below.mono (by assumption) (by first | (simp; done) | omega | (simp; omega))))))⟩
      · have hj1 : j < A.length := by omega
        have hj1' : j < B.length := by have := HN.out; omega
        have hj2 : (j : Int) < (A.length : Int) := by omega
        have hRr := HR.out.below hbw hlt
        have hRr' := HR'.out.below hbw hlt'
        have c0 := hRr.c0 j (by simpa using hj1) _ (by rw [show (A.map keyL)[j]'(by simpa using hj1) = keyL A[j] by simp]; rfl)
        have c1 := hRr.cj j (by simpa using hj1) 0 _ (by rw [show (A.map keyL)[j]'(by simpa using hj1) = keyL A[j] by simp]; rfl)
        have d0 := hRr'.c0 j (by simpa using hj1') _ (by rw [show (B.map keyL)[j]'(by simpa using hj1') = keyL B[j] by simp]; rfl)
        have d1 := hRr'.cj j (by simpa using hj1') 0 _ (by rw [show (B.map keyL)[j]'(by simpa using hj1') = keyL B[j] by simp]; rfl)
        have hb0 : (a.add (j * 2)).block < wr.heap.size := hRr.lt' _
        have hb1 : (a'.add (j * 2)).block < wr.heap.size := hRr'.lt' _
        have HT := Lib.hid (show A[j] = B[j] → A.take (j + 1) = B.take (j + 1) from fun h => by
          rw [List.take_succ_eq_append_getElem hj1, List.take_succ_eq_append_getElem hj1', hok, h])
        have HF := Lib.hid (show A[j] ≠ B[j] → decide (A = B) = false from fun h => keysEq_no (fun e => h (by subst e; rfl)))
        clear hok hRr hRr'
        generalize A[j] = x at *
        generalize B[j] = y at *
        obtain ⟨x0, x1⟩ := x
        obtain ⟨y0, y1⟩ := y
        simp only [Nat.zero_add] at c0 c1 d0 d1
        have hrun := fun w => run_key_neq x0 x1 y0 y1 w
        by_cases he : x0 = y0 ∧ x1 = y1
        · have HT := Lib.hid (HT.out (by rw [he.1, he.2]))
          rw [show (!(decide (x0 = y0) && decide (x1 = y1))) = false by simp [he.1, he.2]] at hrun
          clear he HF
          go_wp2_with fail
          refine region_later (by kernel_rfl) (by kernel_rfl) ?_
          repeat (first | go_big_quiet_step (fail) | quiet_step (fail))
          refine wpQuiet_nil ?_
          intro w1 hb
          obtain ⟨hc, hf⟩ := bcell hb
          go_wp2_with fail
          go_roundw
          case rel => exact ⟨j + 1, by omega, by go_num, HT.out, (by with_reducible (repeat (first | assumption | exact Below.refl _ _ | refine Below.drew ?_ | refine below_drewN ?_ _ | refine Below.alloc ?_ (by first | (simp; done) | omega | (simp; omega)) _ | refine Below.setCell ?_ (by first | (simp; done) | omega | (simp; omega)) _ | refine Below.trans ?_ (Below.mono (by assumption) (by first | (simp; done) | omega | (simp; omega))))))⟩
          case measure => simp [intOf] <;> omega
        · have HQ := Lib.hid (HF.out (fun e => he (by simpa using e)))
          rw [show (!(decide (x0 = y0) && decide (x1 = y1))) = true by by_cases k1 : x0 = y0 <;> by_cases k2 : x1 = y1 <;> simp_all] at hrun
          clear he HT
          go_wp2_with fail
          refine region_later (by kernel_rfl) (by kernel_rfl) ?_
          repeat (first | go_big_quiet_step (fail) | quiet_step (fail))
          refine wpQuiet_nil ?_
          intro w1 hb
          obtain ⟨hc, hf⟩ := bcell hb
          go_wp2_with fail
          go_ret
          exact ⟨by rw [HQ.out]; rfl, (by with_reducible (repeat (first | assumption | exact Below.refl _ _ | refine Below.drew ?_ | refine below_drewN ?_ _ | refine Below.alloc ?_ (by first | (simp; done) | omega | (simp; omega)) _ | refine Below.setCell ?_ (by first | (simp; done) | omega | (simp; omega)) _ | refine Below.trans ?_ (Below.mono (by assumption) (by first | (simp; done) | omega | (simp; omega))))))⟩
end Go.Proofs.YtlfphfklcifgpaaDoor

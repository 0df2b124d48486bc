/-
  Whether two statements are the same, by walking the program's text and slices.EqualFunc's; conditions: the rows lie in memory.
-/
import Derived.Test.YtlfphfklcifgpaaDoorRowSame
namespace Go.Proofs.YtlfphfklcifgpaaDoor
open Go.RowKit Go.Own

set_option maxHeartbeats 1000000 in
theorem same1_any (r s : RowS) (w : World) : Calls Tryd.prog 75 #[r.v, s.v] w fun e w' => e = .returned (.bool (!rowNe r s)) ∧ Below w.heap.size w w' := by
  have hrun := fun w => run_row_eql r s w
  simp only [RowS.v] at hrun ⊢
  go_enter Tryd.func75, Tryd.ntmps75
  go_wp2_with fail
  go_ret
  exact ⟨rfl, (by with_reducible (repeat (first | assumption | exact Below.refl _ _ | refine Below.drew ?_ | refine below_drewN ?_ _ | refine Below.alloc ?_ (by first | (simp; done) | omega | (simp; omega)) _ | refine Below.setCell ?_ (by first | (simp; done) | omega | (simp; omega)) _ | refine Below.trans ?_ (Below.mono (by assumption) (by first | (simp; done) | omega | (simp; omega))))))⟩
theorem rowsNe_len : ∀ {rs ss : List RowS}, rs.length ≠ ss.length → rowsNe rs ss = true
  | [], [], h => absurd rfl h
  | [], _ :: _, _ => rfl
  | _ :: _, [], _ => rfl
  | r :: rs, s :: ss, h => by simp [rowsNe, rowsNe_len (rs := rs) (ss := ss) (by simpa using h)]

set_option maxHeartbeats 2000000 in
set_option maxRecDepth 100000 in
theorem equalFunc_any {w : World} {v v' : Value} {rs rs' : List RowS} (h : IsRows w v rs) (h' : IsRows w v' rs') :
    Calls Tryd.prog 76 #[v, v', .func (.func 75) #[] #[]] w fun e w' => e = .returned (.bool (!rowsNe rs rs')) ∧ Below w.heap.size w w' := by
  by_cases hl : rs.length = rs'.length
  rotate_left
  · obtain ⟨sp, sc, rfl, _⟩ := h.slice
    obtain ⟨sp', sc', rfl, _⟩ := h'.slice
    clear h h'
    have hln : ((rs.length : Int) != (rs'.length : Int)) = true := by simp; omega
    have HQ := Lib.hid (show (!rowsNe rs rs') = false by rw [rowsNe_len hl]; rfl)
    clear hl
    go_enter Tryd.func76, Tryd.ntmps76
    go_wp2_with fail
    go_ret
    exact ⟨by rw [HQ.out]; rfl, (by with_reducible (repeat (first | assumption | exact Below.refl _ _ | refine Below.drew ?_ | refine below_drewN ?_ _ | refine Below.alloc ?_ (by first | (simp; done) | omega | (simp; omega)) _ | refine Below.setCell ?_ (by first | (simp; done) | omega | (simp; omega)) _ | refine Below.trans ?_ (Below.mono (by assumption) (by first | (simp; done) | omega | (simp; omega))))))⟩
  by_cases h0 : rs.length = 0
  · obtain rfl : rs = [] := by simpa using h0
    obtain rfl : rs' = [] := by simpa using hl.symm
    obtain ⟨sp, sc, rfl, _⟩ := h.slice
    obtain ⟨sp', sc', rfl, _⟩ := h'.slice
    clear h h' h0 hl
    simp only [List.length_nil]
    go_enter Tryd.func76, Tryd.ntmps76
    go_wp2_with fail
    go_loopw [17] (fun k wr => k = .int .i64 0 ∧ Below w.heap.size w wr) (fun k _ => 0)
    case atStart => exact ⟨rfl, (by with_reducible (repeat (first | assumption | exact Below.refl _ _ | refine Below.drew ?_ | refine below_drewN ?_ _ | refine Below.alloc ?_ (by first | (simp; done) | omega | (simp; omega)) _ | refine Below.setCell ?_ (by first | (simp; done) | omega | (simp; omega)) _ | refine Below.trans ?_ (Below.mono (by assumption) (by first | (simp; done) | omega | (simp; omega))))))⟩
    case round =>
      obtain ⟨rfl, hbr⟩ := hrel
      go_wp2_with fail
      go_ret
      exact ⟨rfl, (by with_reducible (repeat (first | assumption | exact Below.refl _ _ | refine Below.drew ?_ | refine below_drewN ?_ _ | refine Below.alloc ?_ (by first | (simp; done) | omega | (simp; omega)) _ | refine Below.setCell ?_ (by first | (simp; done) | omega | (simp; omega)) _ | refine Below.trans ?_ (Below.mono (by assumption) (by first | (simp; done) | omega | (simp; omega))))))⟩
  · obtain ⟨a, cap, rfl, hlen, hcap, hR⟩ := h.at (by omega)
    obtain ⟨a', cap', rfl, hlen', hcap', hR'⟩ := h'.at (by omega)
    have HR := Lib.hid hR
    have HR' := Lib.hid hR'
    have hlt := hR.lt
    have hlt' := hR'.lt
    have hmx : (rs.length : Int) ≤ 9223372036854775807 := by unfold maxLen at hcap; omega
    clear h h' hR hR'
    generalize hn' : rs'.length = n' at *
    have HN := Lib.hid hn'
    subst hl
    clear hn'
    go_enter Tryd.func76, Tryd.ntmps76
    go_wp2_with fail
    go_loopw [17] (fun k wr => ∃ j : Nat, j ≤ rs.length ∧ k = .int .i64 (j : Int) ∧ rs.take j = rs'.take j ∧ Below w.heap.size w wr) (fun k _ => (rs.length - (intOf k).toNat))
    case atStart => exact ⟨0, by omega, rfl, rfl, (by with_reducible (repeat (first | assumption | exact Below.refl _ _ | refine Below.drew ?_ | refine below_drewN ?_ _ | refine Below.alloc ?_ (by first | (simp; done) | omega | (simp; omega)) _ | refine Below.setCell ?_ (by first | (simp; done) | omega | (simp; omega)) _ | refine Below.trans ?_ (Below.mono (by assumption) (by first | (simp; done) | omega | (simp; omega))))))⟩
    case round =>
      obtain ⟨j, hj, rfl, hok, hbw⟩ := hrel
      have hz := hbw.size
      by_cases hjl : j = rs.length
      · have HQ := Lib.hid (show (!rowsNe rs rs') = true by
          rw [(rowsNe_iff rs rs').2 ?_]; · rfl
          have e1 := hok
          rw [List.take_of_length_le (by omega), List.take_of_length_le (by have := HN.out; omega)] at e1
          exact e1)
        subst hjl
        clear hok
        go_wp2_with fail
        go_ret
        exact ⟨by rw [HQ.out]; rfl, (by with_reducible (repeat (first | assumption | exact Below.refl _ _ | refine Below.drew ?_ | refine below_drewN ?_ _ | refine Below.alloc ?_ (by first | (simp; done) | omega | (simp; omega)) _ | refine Below.setCell ?_ (by first | (simp; done) | omega | (simp; omega)) _ | refine Below.trans ?_ (Below.mono (by assumption) (by first | (simp; done) | omega | (simp; omega))))))⟩
      · have hj1 : j < rs.length := by omega
        have hj1' : j < rs'.length := by have := HN.out; omega
        have hj2 : (j : Int) < (rs.length : Int) := by omega
        have hRr := HR.out.below hbw hlt
        have hRr' := HR'.out.below hbw hlt'
        have c0 := hRr.c0 j hj1
        have c1 := hRr.c1 j hj1
        have c2 := hRr.c2 j hj1
        have c3 := hRr.c3 j hj1
        have c4 := hRr.c4 j hj1
        have d0 := hRr'.c0 j hj1'
        have d1 := hRr'.c1 j hj1'
        have d2 := hRr'.c2 j hj1'
        have d3 := hRr'.c3 j hj1'
        have d4 := hRr'.c4 j hj1'
        have hb0 : (a.add (j * 5)).block < wr.heap.size := hRr.lt' _
        have hb1 : (a'.add (j * 5)).block < wr.heap.size := hRr'.lt' _
        have hb2 : (a'.add (j * 5)).block < wr.heap.size + 1 := by omega
        have S := fun w => same1_any rs[j] rs'[j] w
        simp only [RowS.v] at S
        have HT := Lib.hid (show rowNe rs[j] rs'[j] = false → rs.take (j + 1) = rs'.take (j + 1) from fun h => by
          rw [List.take_succ_eq_append_getElem hj1, List.take_succ_eq_append_getElem hj1', hok, (rowNe_iff _ _).1 h])
        have HF := Lib.hid (show rowNe rs[j] rs'[j] = true → (!rowsNe rs rs') = false from fun h => by
          cases hr : rowsNe rs rs'
          · obtain rfl := (rowsNe_iff _ _).1 hr
            rw [rowNe_self] at h; cases h
          · rfl)
        clear hok hRr hRr'
        cases hne : rowNe rs[j] rs'[j]
        · have HT := Lib.hid (HT.out hne)
          simp only [hne] at S
          clear hne HF
          go_wp2_with (go_at_call 75; go_must ((with_reducible refine (S _).mono ?_); rintro e w1 ⟨rfl, hb⟩; obtain ⟨hc, hf⟩ := bcell hb; have hz := hb.size; (try simp at hz); (try have hzT := Nat.lt_of_succ_le hz)))
          go_roundw
          case rel => exact ⟨j + 1, by omega, by go_num, HT.out, (by with_reducible (repeat (first | assumption | exact Below.refl _ _ | refine Below.drew ?_ | refine below_drewN ?_ _ | refine Below.alloc ?_ (by first | (simp; done) | omega | (simp; omega)) _ | refine Below.setCell ?_ (by first | (simp; done) | omega | (simp; omega)) _ | refine Below.trans ?_ (Below.mono (by assumption) (by first | (simp; done) | omega | (simp; omega))))))⟩
          case measure => simp [intOf] <;> omega
        · have HQ := Lib.hid (HF.out hne)
          simp only [hne] at S
          clear hne HT
          go_wp2_with (go_at_call 75; go_must ((with_reducible refine (S _).mono ?_); rintro e w1 ⟨rfl, hb⟩; obtain ⟨hc, hf⟩ := bcell hb; have hz := hb.size; (try simp at hz); (try have hzT := Nat.lt_of_succ_le hz)))
          go_ret
          exact ⟨by rw [HQ.out]; rfl, (by with_reducible (repeat (first | assumption | exact Below.refl _ _ | refine Below.drew ?_ | refine below_drewN ?_ _ | refine Below.alloc ?_ (by first | (simp; done) | omega | (simp; omega)) _ | refine Below.setCell ?_ (by first | (simp; done) | omega | (simp; omega)) _ | refine Below.trans ?_ (Below.mono (by assumption) (by first | (simp; done) | omega | (simp; omega))))))⟩

set_option maxHeartbeats 2000000 in
set_option maxRecDepth 100000 in
theorem rowsSame_any {w : World} {v v' : Value} {rs rs' : List RowS} (p q p' q' : Int) (h : IsRows w v rs) (h' : IsRows w v' rs') :
    Calls Tryd.prog 45 #[.agg #[.int .i64 p, .int .i64 q, v], .agg #[.int .i64 p', .int .i64 q', v']] w fun e w' => e = .returned (.bool (sameStmt p q rs p' q' rs')) ∧ Below w.heap.size w w' := by
  have hE := fun W (hb : Below w.heap.size w W) => equalFunc_any (h.below hb h.lt) (h'.below hb h'.lt)
  obtain ⟨sp, sc, rfl, _⟩ := h.slice
  obtain ⟨sp', sc', rfl, _⟩ := h'.slice
  clear h h'
  by_cases hp : p = p'
  · by_cases hq : q = q'
    · have HQ := Lib.hid (show sameStmt p q rs p' q' rs' = !rowsNe rs rs' by simp [sameStmt, hp, hq])
      have hpb : (p == p') = true := by simpa using hp
      have hqb : (q == q') = true := by simpa using hq
      clear hp hq
      go_enter Tryd.func45, Tryd.ntmps45
      go_wp2_with (go_at_call 76; go_must ((with_reducible refine (hE _ (by with_reducible (repeat (first | assumption | exact Below.refl _ _ | refine Below.drew ?_ | refine below_drewN ?_ _ | refine Below.alloc ?_ (by first | (simp; done) | omega | (simp; omega)) _ | refine Below.setCell ?_ (by first | (simp; done) | omega | (simp; omega)) _ | refine Below.trans ?_ (Below.mono (by assumption) (by first | (simp; done) | omega | (simp; omega))))))).mono ?_); rintro e w1 ⟨rfl, hb⟩; obtain ⟨hc, hf⟩ := bcell hb; have hz := hb.size; (try simp at hz); (try have hzT := Nat.lt_of_succ_le hz); have hzA : w.heap.size < w1.heap.size := (by omega); have hzB : w.heap.size + 1 < w1.heap.size := (by omega); have hzA2 := Nat.le_of_lt hzA; have hzB2 := Nat.le_of_lt hzB))
      go_ret
      exact ⟨by rw [HQ.out]; rfl, (by with_reducible (repeat (first | assumption | exact Below.refl _ _ | refine Below.drew ?_ | refine below_drewN ?_ _ | refine Below.alloc ?_ (by first | (simp; done) | omega | (simp; omega)) _ | refine Below.setCell ?_ (by first | (simp; done) | omega | (simp; omega)) _ | refine Below.trans ?_ (Below.mono (by assumption) (by first | (simp; done) | omega | (simp; omega))))))⟩
    · have HQ := Lib.hid (show sameStmt p q rs p' q' rs' = false from sameStmt_no (fun h => hq h.2.1))
      have hpb : (p == p') = true := by simpa using hp
      have hqb : (q == q') = false := by simpa using hq
      clear hp hq
      go_enter Tryd.func45, Tryd.ntmps45
      go_wp2_with fail
      go_ret
      exact ⟨by rw [HQ.out]; rfl, (by with_reducible (repeat (first | assumption | exact Below.refl _ _ | refine Below.drew ?_ | refine below_drewN ?_ _ | refine Below.alloc ?_ (by first | (simp; done) | omega | (simp; omega)) _ | refine Below.setCell ?_ (by first | (simp; done) | omega | (simp; omega)) _ | refine Below.trans ?_ (Below.mono (by assumption) (by first | (simp; done) | omega | (simp; omega))))))⟩
  · have HQ := Lib.hid (show sameStmt p q rs p' q' rs' = false from sameStmt_no (fun h => hp h.1))
    have hpb : (p == p') = false := by simpa using hp
    clear hp
    go_enter Tryd.func45, Tryd.ntmps45
    go_wp2_with fail
    go_ret
    exact ⟨by rw [HQ.out]; rfl, (by with_reducible (repeat (first | assumption | exact Below.refl _ _ | refine Below.drew ?_ | refine below_drewN ?_ _ | refine Below.alloc ?_ (by first | (simp; done) | omega | (simp; omega)) _ | refine Below.setCell ?_ (by first | (simp; done) | omega | (simp; omega)) _ | refine Below.trans ?_ (Below.mono (by assumption) (by first | (simp; done) | omega | (simp; omega))))))⟩
end Go.Proofs.YtlfphfklcifgpaaDoor

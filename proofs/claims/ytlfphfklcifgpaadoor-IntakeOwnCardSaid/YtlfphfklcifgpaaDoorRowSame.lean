/-
  Whether two statements are the same, by walking the document's text; conditions: the rows lie in memory.
-/
import Derived.Test.YtlfphfklcifgpaaDoorRowVal
namespace Go.Proofs.YtlfphfklcifgpaaDoor
open Go.RowKit Go.Own

def rowNe (r s : RowS) : Bool := !(decide (r.o = s.o) && decide (r.d = s.d) && decide (r.code = s.code) && decide (r.amt = s.amt) && decide (r.qty = s.qty))
theorem rowNe_iff (r s : RowS) : rowNe r s = false ↔ r = s := by
  obtain ⟨a, b, c, d, e⟩ := r
  obtain ⟨a', b', c', d', e'⟩ := s
  simp [rowNe, and_assoc]
theorem rowNe_self (r : RowS) : rowNe r r = false := (rowNe_iff r r).2 rfl
theorem run_row_neq (r s : RowS) (w : World) : (binOp .neq 45 r.v s.v).run Tryd.prog w = .ok (.bool (rowNe r s)) w := by
  obtain ⟨a, b, c, d, e⟩ := r
  obtain ⟨a', b', c', d', e'⟩ := s
  simp only [RowS.v]
  go_simp
  simp [rowNe]
  (repeat' split) <;> simp_all
theorem run_row_eql (r s : RowS) (w : World) : (binOp .eql 45 r.v s.v).run Tryd.prog w = .ok (.bool (!rowNe r s)) w := by
  obtain ⟨a, b, c, d, e⟩ := r
  obtain ⟨a', b', c', d', e'⟩ := s
  simp only [RowS.v]
  go_simp
  simp [rowNe]
  (repeat' split) <;> simp_all
theorem run_key_eql (a b a' b' : Int) (w : World) : (binOp .eql 43 (.agg #[.int .i64 a, .int .i64 b]) (.agg #[.int .i64 a', .int .i64 b'])).run Tryd.prog w = .ok (.bool (decide (a = a') && decide (b = b'))) w := by
  go_simp
  (repeat' split) <;> simp_all

def rowsNe : List RowS → List RowS → Bool
  | [], [] => false
  | r :: rs, s :: ss => rowNe r s || rowsNe rs ss
  | _, _ => true
theorem rowsNe_iff : ∀ (rs ss : List RowS), rowsNe rs ss = false ↔ rs = ss
  | [], [] => by simp [rowsNe]
  | [], _ :: _ => by simp [rowsNe]
  | _ :: _, [] => by simp [rowsNe]
  | r :: rs, s :: ss => by simp [rowsNe, rowNe_iff, rowsNe_iff rs ss]
def sameStmt (p q : Int) (rs : List RowS) (p' q' : Int) (rs' : List RowS) : Bool := decide (p = p') && decide (q = q') && !rowsNe rs rs'
theorem sameStmt_iff {p q : Int} {rs : List RowS} {p' q' : Int} {rs' : List RowS} : sameStmt p q rs p' q' rs' = true ↔ p = p' ∧ q = q' ∧ rs = rs' := by
  simp [sameStmt, rowsNe_iff, and_assoc]
theorem sameStmt_no {p q : Int} {rs : List RowS} {p' q' : Int} {rs' : List RowS} (h : ¬ (p = p' ∧ q = q' ∧ rs = rs')) : sameStmt p q rs p' q' rs' = false := by
  cases he : sameStmt p q rs p' q' rs'
  · rfl
  · exact absurd (sameStmt_iff.1 he) h

/-- Both slices, where there is a row. -/
theorem IsRows.at {w : World} {v : Value} {rs : List RowS} (h : IsRows w v rs) (hn : 0 < rs.length) : ∃ a cap, v = .slice (Option.some a) rs.length cap ∧ rs.length ≤ cap ∧ cap ≤ maxLen ∧ RowsAt w a rs := by
  cases h with
  | none sp sc _ => simp at hn
  | some a cap rs hlen hcap h0 h => exact ⟨a, cap, rfl, hlen, hcap, h⟩

set_option maxHeartbeats 2000000 in
set_option maxRecDepth 100000 in
theorem refSame_any {w : World} {v v' : Value} {rs rs' : List RowS} (p q p' q' : Int) (h : IsRows w v rs) (h' : IsRows w v' rs') :
    Calls Tryd.prog 23 #[.agg #[.int .i64 p, .int .i64 q, v], .agg #[.int .i64 p', .int .i64 q', v']] w fun e w' => e = .returned (.bool (sameStmt p q rs p' q' rs')) ∧ Below w.heap.size w w' := by
  by_cases hp : p = p'
  rotate_left
  · obtain ⟨sp, sc, rfl, _⟩ := h.slice
    obtain ⟨sp', sc', rfl, _⟩ := h'.slice
    clear h h'
    have hpn : (p != p') = true := by simpa using hp
    have HQ := Lib.hid (sameStmt_no (q := q) (q' := q') (rs := rs) (rs' := rs') (fun h => hp h.1))
    clear hp
    go_enter Tryd.func23, Tryd.ntmps23
    go_wp2_with fail
    go_ret
    exact ⟨by rw [HQ.out]; rfl, (by with_reducible (repeat (first | assumption | exact Below.refl _ _ | refine Below.drew ?_ | refine below_drewN ?_ _ | refine Below.alloc ?_ (by first | (simp; done) | omega | (simp; omega)) _ | refine Below.setCell ?_ (by first | (simp; done) | omega | (simp; omega)) _ | refine Below.trans ?_ (Below.mono (by assumption) (by first | (simp; done) | omega | (simp; omega))))))⟩
  subst hp
  by_cases hq : q = q'
  rotate_left
  · obtain ⟨sp, sc, rfl, _⟩ := h.slice
    obtain ⟨sp', sc', rfl, _⟩ := h'.slice
    clear h h'
    have hpn : (q != q') = true := by simpa using hq
    have HQ := Lib.hid (sameStmt_no (p := p) (p' := p) (rs := rs) (rs' := rs') (fun h => hq h.2.1))
    clear hq
    go_enter Tryd.func23, Tryd.ntmps23
    go_wp2_with fail
    go_ret
    exact ⟨by rw [HQ.out]; rfl, (by with_reducible (repeat (first | assumption | exact Below.refl _ _ | refine Below.drew ?_ | refine below_drewN ?_ _ | refine Below.alloc ?_ (by first | (simp; done) | omega | (simp; omega)) _ | refine Below.setCell ?_ (by first | (simp; done) | omega | (simp; omega)) _ | refine Below.trans ?_ (Below.mono (by assumption) (by first | (simp; done) | omega | (simp; omega))))))⟩
  subst hq
  by_cases hl : rs.length = rs'.length
  rotate_left
  · obtain ⟨sp, sc, rfl, _⟩ := h.slice
    obtain ⟨sp', sc', rfl, _⟩ := h'.slice
    clear h h'
    have hln : ((rs.length : Int) != (rs'.length : Int)) = true := by simp; omega
    have HQ := Lib.hid (sameStmt_no (p := p) (p' := p) (q := q) (q' := q) (rs := rs) (rs' := rs') (fun h => hl (by rw [h.2.2])))
    clear hl
    go_enter Tryd.func23, Tryd.ntmps23
    go_wp2_with fail
    go_ret
    exact ⟨by rw [HQ.out]; rfl, (by with_reducible (repeat (first | assumption | exact Below.refl _ _ | refine Below.drew ?_ | refine below_drewN ?_ _ | refine Below.alloc ?_ (by first | (simp; done) | omega | (simp; omega)) _ | refine Below.setCell ?_ (by first | (simp; done) | omega | (simp; omega)) _ | refine Below.trans ?_ (Below.mono (by assumption) (by first | (simp; done) | omega | (simp; omega))))))⟩
  by_cases h0 : rs.length = 0
  · obtain rfl : rs = [] := by simpa using h0
    obtain rfl : rs' = [] := by simpa using hl.symm
    obtain ⟨sp, sc, rfl, _⟩ := h.slice
    obtain ⟨sp', sc', rfl, _⟩ := h'.slice
    clear h h' h0 hl
    simp only [List.length_nil]
    have HQ := Lib.hid (show sameStmt p q [] p q [] = true from sameStmt_iff.2 ⟨rfl, rfl, rfl⟩)
    go_enter Tryd.func23, Tryd.ntmps23
    go_wp2_with fail
    go_loopw [5] (fun k wr => k = .int .i64 0 ∧ Below (w.heap.size + 2) ((w.alloc (.cells #[.int .i64 p, .int .i64 q, .slice sp 0 sc] 28)).alloc (.cells #[.int .i64 p, .int .i64 q, .slice sp' 0 sc'] 28)) wr) (fun k _ => 0)
    case atStart => exact ⟨rfl, (by with_reducible (repeat (first | assumption | exact Below.refl _ _ | refine Below.drew ?_ | refine below_drewN ?_ _ | refine Below.alloc ?_ (by first | (simp; done) | omega | (simp; omega)) _ | refine Below.setCell ?_ (by first | (simp; done) | omega | (simp; omega)) _ | refine Below.trans ?_ (Below.mono (by assumption) (by first | (simp; done) | omega | (simp; omega))))))⟩
    case round =>
      obtain ⟨rfl, hbr⟩ := hrel
      obtain ⟨hc, hf⟩ := bcell hbr
      go_wp2_with fail
      go_ret
      exact ⟨by rw [HQ.out]; rfl, (by with_reducible (repeat (first | assumption | exact Below.refl _ _ | refine Below.drew ?_ | refine below_drewN ?_ _ | refine Below.alloc ?_ (by first | (simp; done) | omega | (simp; omega)) _ | refine Below.setCell ?_ (by first | (simp; done) | omega | (simp; omega)) _ | refine Below.trans ?_ (Below.mono (by assumption) (by first | (simp; done) | omega | (simp; omega))))))⟩
  · obtain ⟨a, cap, rfl, hlen, hcap, hR⟩ := h.at (by omega)
    obtain ⟨a', cap', rfl, hlen', hcap', hR'⟩ := h'.at (by omega)
    have HR := Lib.hid hR
    have HR' := Lib.hid hR'
    have hlt := hR.lt
    have hlt' := hR'.lt
    have hmx : (rs.length : Int) ≤ 9223372036854775807 := by unfold maxLen at hcap; omega
    clear h h' hR hR'
    generalize hn' : rs'.length = n' at *
    have HN := Lib.hid hn'
    subst hl
    clear hn'
    go_enter Tryd.func23, Tryd.ntmps23
    go_wp2_with fail
    go_loopw [5] (fun k wr => ∃ j : Nat, j ≤ rs.length ∧ k = .int .i64 (j : Int) ∧ rs.take j = rs'.take j ∧ Below (w.heap.size + 2) ((w.alloc (.cells #[.int .i64 p, .int .i64 q, .slice (some a) rs.length cap] 28)).alloc (.cells #[.int .i64 p, .int .i64 q, .slice (some a') rs.length cap'] 28)) wr) (fun k _ => (rs.length - (intOf k).toNat))
    case atStart => exact ⟨0, by omega, rfl, rfl, (by with_reducible (repeat (first | assumption | exact Below.refl _ _ | refine Below.drew ?_ | refine below_drewN ?_ _ | refine Below.alloc ?_ (by first | (simp; done) | omega | (simp; omega)) _ | refine Below.setCell ?_ (by first | (simp; done) | omega | (simp; omega)) _ | refine Below.trans ?_ (Below.mono (by assumption) (by first | (simp; done) | omega | (simp; omega))))))⟩
    case round =>
      obtain ⟨j, hj, rfl, hok, hbr⟩ := hrel
      have hbw : Below w.heap.size w wr := Below.trans (by with_reducible (repeat (first | assumption | exact Below.refl _ _ | refine Below.drew ?_ | refine below_drewN ?_ _ | refine Below.alloc ?_ (by first | (simp; done) | omega | (simp; omega)) _ | refine Below.setCell ?_ (by first | (simp; done) | omega | (simp; omega)) _ | refine Below.trans ?_ (Below.mono (by assumption) (by first | (simp; done) | omega | (simp; omega)))))) (hbr.mono (by omega))
      obtain ⟨hc, hf⟩ := bcell hbr
      have hz := hbr.size
      simp at hz
      by_cases hjl : j = rs.length
      · have HQ := Lib.hid (show sameStmt p q rs p q rs' = true from sameStmt_iff.2 ⟨rfl, rfl, by
          have e1 := hok
          rw [List.take_of_length_le (by omega), List.take_of_length_le (by have := HN.out; omega)] at e1
          exact e1⟩)
        subst hjl
        clear hok
        go_wp2_with fail
        go_ret
        exact ⟨by rw [HQ.out]; rfl, (by with_reducible (repeat (first | assumption | exact Below.refl _ _ | refine Below.drew ?_ | refine below_drewN ?_ _ | refine Below.alloc ?_ (by first | (simp; done) | omega | (simp; omega)) _ | refine Below.setCell ?_ (by first | (simp; done) | omega | (simp; omega)) _ | refine Below.trans ?_ (Below.mono (by assumption) (by first | (simp; done) | omega | (simp; omega))))))⟩
      · have hj1 : j < rs.length := by omega
        have hj1' : j < rs'.length := by have := HN.out; omega
        have hj2 : (j : Int) < (rs.length : Int) := by omega
        have hRr := HR.out.below hbw hlt
        have hRr' := HR'.out.below hbw hlt'
        have c0 := hRr.c0 j hj1
        have c1 := hRr.c1 j hj1
        have c2 := hRr.c2 j hj1
        have c3 := hRr.c3 j hj1
        have c4 := hRr.c4 j hj1
        have d0 := hRr'.c0 j hj1'
        have d1 := hRr'.c1 j hj1'
        have d2 := hRr'.c2 j hj1'
        have d3 := hRr'.c3 j hj1'
        have d4 := hRr'.c4 j hj1'
        have hb0 : (a.add (j * 5)).block < wr.heap.size := hRr.lt' _
        have hb1 : (a'.add (j * 5)).block < wr.heap.size := hRr'.lt' _
        have hzA : w.heap.size < wr.heap.size := by omega
        have hzB : w.heap.size + 1 < wr.heap.size := by omega
        have hrun := fun w => run_row_neq rs[j] rs'[j] w
        simp only [RowS.v] at hrun
        have HT := Lib.hid (show rowNe rs[j] rs'[j] = false → rs.take (j + 1) = rs'.take (j + 1) from fun h => by
          rw [List.take_succ_eq_append_getElem hj1, List.take_succ_eq_append_getElem hj1', hok, (rowNe_iff _ _).1 h])
        have HF := Lib.hid (show rowNe rs[j] rs'[j] = true → sameStmt p q rs p q rs' = false from fun h => sameStmt_no (fun h2 => by
          obtain ⟨_, _, rfl⟩ := h2
          rw [rowNe_self] at h; cases h))
        clear hok hRr hRr'
        cases hne : rowNe rs[j] rs'[j]
        · have HT := Lib.hid (HT.out hne)
          simp only [hne] at hrun
          clear hne HF
          go_wp2_with fail
          refine region_later (by kernel_rfl) (by kernel_rfl) ?_
          repeat (first | go_big_quiet_step (fail) | quiet_step (fail))
          refine wpQuiet_nil ?_
          intro w1 hb
          obtain ⟨hc, hf⟩ := bcell hb
          go_wp2_with fail
          go_roundw
          case rel => exact ⟨j + 1, by omega, by go_num, HT.out, (by with_reducible (repeat (first | assumption | exact Below.refl _ _ | refine Below.drew ?_ | refine below_drewN ?_ _ | refine Below.alloc ?_ (by first | (simp; done) | omega | (simp; omega)) _ | refine Below.setCell ?_ (by first | (simp; done) | omega | (simp; omega)) _ | refine Below.trans ?_ (Below.mono (by assumption) (by first | (simp; done) | omega | (simp; omega))))))⟩
          case measure => simp [intOf] <;> omega
        · have HQ := Lib.hid (HF.out hne)
          simp only [hne] at hrun
          clear hne HT
          go_wp2_with fail
          refine region_later (by kernel_rfl) (by kernel_rfl) ?_
          repeat (first | go_big_quiet_step (fail) | quiet_step (fail))
          refine wpQuiet_nil ?_
          intro w1 hb
          obtain ⟨hc, hf⟩ := bcell hb
          go_wp2_with fail
          go_ret
          exact ⟨by rw [HQ.out]; rfl, (by with_reducible (repeat (first | assumption | exact Below.refl _ _ | refine Below.drew ?_ | refine below_drewN ?_ _ | refine Below.alloc ?_ (by first | (simp; done) | omega | (simp; omega)) _ | refine Below.setCell ?_ (by first | (simp; done) | omega | (simp; omega)) _ | refine Below.trans ?_ (Below.mono (by assumption) (by first | (simp; done) | omega | (simp; omega))))))⟩
end Go.Proofs.YtlfphfklcifgpaaDoor

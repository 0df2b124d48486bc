/-
  Whether there may be a row of a party, by walking the text; conditions: the table of parties as laid.
-/
import Derived.Test.YtlfphfklcifgpaaDoorDeep
namespace Go.Proofs.YtlfphfklcifgpaaDoor
open Go.RowKit Go.Own

structure RowS where
  o : Int
  d : Int
  code : Int
  amt : Int
  qty : Int
def RowS.cells (r : RowS) : Array Value := #[.int .i64 r.o, .int .i64 r.d, .int .i64 r.code, .int .i64 r.amt, .int .i64 r.qty]
def RowS.v (r : RowS) : Value := .agg #[.int .i64 r.o, .int .i64 r.d, .int .i64 r.code, .int .i64 r.amt, .int .i64 r.qty]
def mayRow (r : RowS) (p : Int) : Bool := keyOk r.o r.d && decide (partyOf r.d = p) && (decide (r.code = 1) || decide (r.code = 2)) &&
  (if r.code = 2 then decide (r.amt = 0) && decide (r.qty = 0)
   else if p = 0 then decide (r.qty = 0) && decide (0 ≤ r.amt) && decide (r.amt ≤ 1099511627776)
   else decide (r.amt = 0) && decide (0 ≤ r.qty) && decide (r.qty ≤ 999))

set_option maxHeartbeats 4000000 in
set_option maxRecDepth 100000 in
theorem rowMay_any (r : RowS) (p : Int) (w : World) (hL : Laid w) : Calls Tryd.prog 92 #[r.v, .int .i64 p] w fun e w' => e = .returned (.bool (mayRow r p)) ∧ Below w.heap.size w w' := by
  obtain ⟨o, d, code, amt, qty⟩ := r
  have HQ : mayRow ⟨o, d, code, amt, qty⟩ p = mayRow ⟨o, d, code, amt, qty⟩ p := rfl
  conv at HQ => rhs; unfold mayRow
  simp only at HQ
  have hK := fun w => keyCheck_any o d w
  have hP := fun w hL => party_any d w hL
  have HL := Lib.hid hL
  have hpos : 0 < w.heap.size := hL.1
  clear hL
  simp only [RowS.v]
  cases hk : keyOk o d
  · rw [hk] at HQ hK
    simp only [Bool.false_and] at HQ
    have HQ := Lib.hid HQ
    clear hk
    go_enter Tryd.func92, Tryd.ntmps92
    go_wp2_with (go_at_call 52; go_must ((with_reducible refine (hK _).mono ?_); rintro e w1 ⟨rfl, hb⟩; obtain ⟨hc, hf⟩ := bcell hb; have hz := hb.size; (try simp at hz); (try have hzT := Nat.lt_of_succ_le hz); have hzA : w.heap.size < w1.heap.size := (by omega); have hzA2 := Nat.le_of_lt hzA))
    go_ret
    exact ⟨by rw [HQ.out]; rfl, (by with_reducible (repeat (first | assumption | exact Below.refl _ _ | refine Below.drew ?_ | refine below_drewN ?_ _ | refine Below.alloc ?_ (by first | (simp; done) | omega | (simp; omega)) _ | refine Below.setCell ?_ (by first | (simp; done) | omega | (simp; omega)) _ | refine Below.trans ?_ (Below.mono (by assumption) (by first | (simp; done) | omega | (simp; omega))))))⟩
  · rw [hk] at HQ hK
    clear hk
    generalize partyOf d = q at *
    by_cases ht : q = p
    · subst ht
      simp only [decide_true, Bool.true_and, Bool.and_true] at HQ
      have HQ := Lib.hid HQ
      by_cases hc1 : code = 1
      · subst hc1
        by_cases h0 : q = 0
        · subst h0
          go_enter Tryd.func92, Tryd.ntmps92
          go_wp2_with (first | (go_at_call 52; go_must ((with_reducible refine (hK _).mono ?_); rintro e w1 ⟨rfl, hb⟩; obtain ⟨hc, hf⟩ := bcell hb; have hz := hb.size; (try simp at hz); (try have hzT := Nat.lt_of_succ_le hz); have hzA : w.heap.size < w1.heap.size := (by omega); have hzA2 := Nat.le_of_lt hzA)) | (go_at_call 53; go_must ((with_reducible refine (hP _ (by exact HL.out.below (by with_reducible (repeat (first | assumption | exact Below.refl _ _ | refine Below.drew ?_ | refine below_drewN ?_ _ | refine Below.alloc ?_ (by first | (simp; done) | omega | (simp; omega)) _ | refine Below.setCell ?_ (by first | (simp; done) | omega | (simp; omega)) _ | refine Below.trans ?_ (Below.mono (by assumption) (by first | (simp; done) | omega | (simp; omega)))))) hpos)).mono ?_); rintro e w1 ⟨rfl, hb⟩; obtain ⟨hc, hf⟩ := bcell hb; have hz := hb.size; (try simp at hz); (try have hzT := Nat.lt_of_succ_le hz); have hzA : w.heap.size < w1.heap.size := (by omega); have hzA2 := Nat.le_of_lt hzA)))
          all_goals go_ret
          all_goals refine ⟨ret_bool ?_, (by with_reducible (repeat (first | assumption | exact Below.refl _ _ | refine Below.drew ?_ | refine below_drewN ?_ _ | refine Below.alloc ?_ (by first | (simp; done) | omega | (simp; omega)) _ | refine Below.setCell ?_ (by first | (simp; done) | omega | (simp; omega)) _ | refine Below.trans ?_ (Below.mono (by assumption) (by first | (simp; done) | omega | (simp; omega))))))⟩
          all_goals (have hq := HQ.out; clear HQ HL hK hP hc hf; first | (simp_all; done) | (simp_all; omega) | (rw [hq, Bool.eq_iff_iff]; simp [*] <;> omega) | (rw [hq, Bool.eq_iff_iff]; simp; grind))
        · have h0b : (q == 0) = false := by simpa using h0
          go_enter Tryd.func92, Tryd.ntmps92
          go_wp2_with (first | (go_at_call 52; go_must ((with_reducible refine (hK _).mono ?_); rintro e w1 ⟨rfl, hb⟩; obtain ⟨hc, hf⟩ := bcell hb; have hz := hb.size; (try simp at hz); (try have hzT := Nat.lt_of_succ_le hz); have hzA : w.heap.size < w1.heap.size := (by omega); have hzA2 := Nat.le_of_lt hzA)) | (go_at_call 53; go_must ((with_reducible refine (hP _ (by exact HL.out.below (by with_reducible (repeat (first | assumption | exact Below.refl _ _ | refine Below.drew ?_ | refine below_drewN ?_ _ | refine Below.alloc ?_ (by first | (simp; done) | omega | (simp; omega)) _ | refine Below.setCell ?_ (by first | (simp; done) | omega | (simp; omega)) _ | refine Below.trans ?_ (Below.mono (by assumption) (by first | (simp; done) | omega | (simp; omega)))))) hpos)).mono ?_); rintro e w1 ⟨rfl, hb⟩; obtain ⟨hc, hf⟩ := bcell hb; have hz := hb.size; (try simp at hz); (try have hzT := Nat.lt_of_succ_le hz); have hzA : w.heap.size < w1.heap.size := (by omega); have hzA2 := Nat.le_of_lt hzA)))
          all_goals go_ret
          all_goals refine ⟨ret_bool ?_, (by with_reducible (repeat (first | assumption | exact Below.refl _ _ | refine Below.drew ?_ | refine below_drewN ?_ _ | refine Below.alloc ?_ (by first | (simp; done) | omega | (simp; omega)) _ | refine Below.setCell ?_ (by first | (simp; done) | omega | (simp; omega)) _ | refine Below.trans ?_ (Below.mono (by assumption) (by first | (simp; done) | omega | (simp; omega))))))⟩
          all_goals (have hq := HQ.out; clear HQ HL hK hP hc hf; first | (simp_all; done) | (simp_all; omega) | (rw [hq, Bool.eq_iff_iff]; simp [*] <;> omega) | (rw [hq, Bool.eq_iff_iff]; simp; grind))
      · have hc1b : (code == 1) = false := by simpa using hc1
        have hc1n : (code != 1) = true := by simpa using hc1
        by_cases hc2 : code = 2
        · subst hc2
          go_enter Tryd.func92, Tryd.ntmps92
          go_wp2_with (first | (go_at_call 52; go_must ((with_reducible refine (hK _).mono ?_); rintro e w1 ⟨rfl, hb⟩; obtain ⟨hc, hf⟩ := bcell hb; have hz := hb.size; (try simp at hz); (try have hzT := Nat.lt_of_succ_le hz); have hzA : w.heap.size < w1.heap.size := (by omega); have hzA2 := Nat.le_of_lt hzA)) | (go_at_call 53; go_must ((with_reducible refine (hP _ (by exact HL.out.below (by with_reducible (repeat (first | assumption | exact Below.refl _ _ | refine Below.drew ?_ | refine below_drewN ?_ _ | refine Below.alloc ?_ (by first | (simp; done) | omega | (simp; omega)) _ | refine Below.setCell ?_ (by first | (simp; done) | omega | (simp; omega)) _ | refine Below.trans ?_ (Below.mono (by assumption) (by first | (simp; done) | omega | (simp; omega)))))) hpos)).mono ?_); rintro e w1 ⟨rfl, hb⟩; obtain ⟨hc, hf⟩ := bcell hb; have hz := hb.size; (try simp at hz); (try have hzT := Nat.lt_of_succ_le hz); have hzA : w.heap.size < w1.heap.size := (by omega); have hzA2 := Nat.le_of_lt hzA)))
          all_goals go_ret
          all_goals refine ⟨ret_bool ?_, (by with_reducible (repeat (first | assumption | exact Below.refl _ _ | refine Below.drew ?_ | refine below_drewN ?_ _ | refine Below.alloc ?_ (by first | (simp; done) | omega | (simp; omega)) _ | refine Below.setCell ?_ (by first | (simp; done) | omega | (simp; omega)) _ | refine Below.trans ?_ (Below.mono (by assumption) (by first | (simp; done) | omega | (simp; omega))))))⟩
          all_goals (have hq := HQ.out; clear HQ HL hK hP hc hf; first | (simp_all; done) | (simp_all; omega) | (rw [hq, Bool.eq_iff_iff]; simp [*] <;> omega) | (rw [hq, Bool.eq_iff_iff]; simp; grind))
        · have hc2b : (code == 2) = false := by simpa using hc2
          have hc2n : (code != 2) = true := by simpa using hc2
          have HZ := Lib.hid (HQ.out.trans (show _ = false by simp [hc1, hc2]))
          clear HQ
          go_enter Tryd.func92, Tryd.ntmps92
          go_wp2_with (first | (go_at_call 52; go_must ((with_reducible refine (hK _).mono ?_); rintro e w1 ⟨rfl, hb⟩; obtain ⟨hc, hf⟩ := bcell hb; have hz := hb.size; (try simp at hz); (try have hzT := Nat.lt_of_succ_le hz); have hzA : w.heap.size < w1.heap.size := (by omega); have hzA2 := Nat.le_of_lt hzA)) | (go_at_call 53; go_must ((with_reducible refine (hP _ (by exact HL.out.below (by with_reducible (repeat (first | assumption | exact Below.refl _ _ | refine Below.drew ?_ | refine below_drewN ?_ _ | refine Below.alloc ?_ (by first | (simp; done) | omega | (simp; omega)) _ | refine Below.setCell ?_ (by first | (simp; done) | omega | (simp; omega)) _ | refine Below.trans ?_ (Below.mono (by assumption) (by first | (simp; done) | omega | (simp; omega)))))) hpos)).mono ?_); rintro e w1 ⟨rfl, hb⟩; obtain ⟨hc, hf⟩ := bcell hb; have hz := hb.size; (try simp at hz); (try have hzT := Nat.lt_of_succ_le hz); have hzA : w.heap.size < w1.heap.size := (by omega); have hzA2 := Nat.le_of_lt hzA)))
          go_ret
          exact ⟨by rw [HZ.out]; rfl, (by with_reducible (repeat (first | assumption | exact Below.refl _ _ | refine Below.drew ?_ | refine below_drewN ?_ _ | refine Below.alloc ?_ (by first | (simp; done) | omega | (simp; omega)) _ | refine Below.setCell ?_ (by first | (simp; done) | omega | (simp; omega)) _ | refine Below.trans ?_ (Below.mono (by assumption) (by first | (simp; done) | omega | (simp; omega))))))⟩
    · have htb : (q == p) = false := by simpa using ht
      have htn : (q != p) = true := by simpa using ht
      rw [decide_eq_false ht] at HQ
      simp only [Bool.and_false, Bool.false_and] at HQ
      have HQ := Lib.hid HQ
      clear ht
      go_enter Tryd.func92, Tryd.ntmps92
      go_wp2_with (first | (go_at_call 52; go_must ((with_reducible refine (hK _).mono ?_); rintro e w1 ⟨rfl, hb⟩; obtain ⟨hc, hf⟩ := bcell hb; have hz := hb.size; (try simp at hz); (try have hzT := Nat.lt_of_succ_le hz); have hzA : w.heap.size < w1.heap.size := (by omega); have hzA2 := Nat.le_of_lt hzA)) | (go_at_call 53; go_must ((with_reducible refine (hP _ (by exact HL.out.below (by with_reducible (repeat (first | assumption | exact Below.refl _ _ | refine Below.drew ?_ | refine below_drewN ?_ _ | refine Below.alloc ?_ (by first | (simp; done) | omega | (simp; omega)) _ | refine Below.setCell ?_ (by first | (simp; done) | omega | (simp; omega)) _ | refine Below.trans ?_ (Below.mono (by assumption) (by first | (simp; done) | omega | (simp; omega)))))) hpos)).mono ?_); rintro e w1 ⟨rfl, hb⟩; obtain ⟨hc, hf⟩ := bcell hb; have hz := hb.size; (try simp at hz); (try have hzT := Nat.lt_of_succ_le hz); have hzA : w.heap.size < w1.heap.size := (by omega); have hzA2 := Nat.le_of_lt hzA)))
      go_ret
      exact ⟨by rw [HQ.out]; rfl, (by with_reducible (repeat (first | assumption | exact Below.refl _ _ | refine Below.drew ?_ | refine below_drewN ?_ _ | refine Below.alloc ?_ (by first | (simp; done) | omega | (simp; omega)) _ | refine Below.setCell ?_ (by first | (simp; done) | omega | (simp; omega)) _ | refine Below.trans ?_ (Below.mono (by assumption) (by first | (simp; done) | omega | (simp; omega))))))⟩
end Go.Proofs.YtlfphfklcifgpaaDoor

/-
  Whether a message asks what may be asked, by walking both texts; conditions: texts no longer than memory bears, the table of parties as laid.
-/
import Derived.Test.YtkgjcbkmdpndhaaDoorRefMsg
namespace Go.Proofs.YtkgjcbkmdpndhaaDoor
open Go.RowKit Go.Own

def mayMsg (m : MsgS) : Bool := keyOk m.o m.d && decide (m.to = partyOf m.d) && decide (m.c = 0) &&
  (if m.to = 0 then m.sku.isEmpty && decide (m.q = 0) && decide (1 ≤ m.a) && decide (m.a ≤ 1099511627776)
   else !m.sku.isEmpty && decide (m.sku.length ≤ 8) && isName m.sku && decide (1 ≤ m.q) && decide (m.q ≤ 999) && decide (m.a = 0))

set_option maxHeartbeats 4000000 in
set_option maxRecDepth 100000 in
theorem may_any (m : MsgS) (w : World) (h1 : m.sku.length ≤ maxLen) (hL : Laid w) : Calls Tryd.prog 31 #[m.v] w fun e w' => e = .returned (.bool (mayMsg m)) ∧ Below w.heap.size w w' := by
  obtain ⟨to, o, d, sku, q, a, c⟩ := m
  have HQ : mayMsg ⟨to, o, d, sku, q, a, c⟩ = mayMsg ⟨to, o, d, sku, q, a, c⟩ := rfl
  conv at HQ => rhs; unfold mayMsg
  simp only at h1 HQ
  have hN := fun w => name_any sku w h1
  have hK := fun w => keyCheck_any o d w
  have hP := fun w hL => party_any d w hL
  have HL := Lib.hid hL
  have hpos : 0 < w.heap.size := hL.1
  clear hL
  unfold maxLen at h1
  simp only [MsgS.v]
  cases hk : keyOk o d
  · rw [hk] at HQ hK
    simp only [Bool.false_and] at HQ
    have HQ := Lib.hid HQ
    clear hk
    go_enter Tryd.func31, Tryd.ntmps31
    go_wp2_with (go_at_call 53; go_must ((with_reducible refine (hK _).mono ?_); rintro e w1 ⟨rfl, hb⟩; obtain ⟨hc, hf⟩ := bcell hb; have hz := hb.size; (try simp at hz); (try have hzT := Nat.lt_of_succ_le hz); have hzA : w.heap.size < w1.heap.size := (by omega); have hzA2 := Nat.le_of_lt hzA))
    go_ret
    exact ⟨by rw [HQ.out]; rfl, (by with_reducible (repeat (first | assumption | exact Below.refl _ _ | refine Below.drew ?_ | refine below_drewN ?_ _ | refine Below.alloc ?_ (by first | (simp; done) | omega | (simp; omega)) _ | refine Below.setCell ?_ (by first | (simp; done) | omega | (simp; omega)) _ | refine Below.trans ?_ (Below.mono (by assumption) (by first | (simp; done) | omega | (simp; omega))))))⟩
  · rw [hk] at HQ hK
    clear hk
    generalize partyOf d = p at *
    by_cases ht : to = p
    · subst ht
      by_cases hc : c = 0
      · subst hc
        by_cases h0 : to = 0
        · subst h0
          simp only [if_true, decide_true, Bool.true_and, Bool.and_true] at HQ
          have HQ := Lib.hid HQ
          go_enter Tryd.func31, Tryd.ntmps31
          go_wp2_with (go_at_call 53; go_must ((with_reducible refine (hK _).mono ?_); rintro e w1 ⟨rfl, hb⟩; obtain ⟨hc, hf⟩ := bcell hb; have hz := hb.size; (try simp at hz); (try have hzT := Nat.lt_of_succ_le hz); have hzA : w.heap.size < w1.heap.size := (by omega); have hzA2 := Nat.le_of_lt hzA))
          have hB1 : Below w.heap.size w w1 := (by with_reducible (repeat (first | assumption | exact Below.refl _ _ | refine Below.drew ?_ | refine below_drewN ?_ _ | refine Below.alloc ?_ (by first | (simp; done) | omega | (simp; omega)) _ | refine Below.setCell ?_ (by first | (simp; done) | omega | (simp; omega)) _ | refine Below.trans ?_ (Below.mono (by assumption) (by first | (simp; done) | omega | (simp; omega))))))
          have HL1 := Lib.hid (HL.out.below hB1 hpos)
          have hpos1 : 0 < w1.heap.size := by omega
          refine region_later (by kernel_rfl) (by kernel_rfl) ?_
          repeat (first | go_big_quiet_step ((go_at_call 36; (with_reducible exact calls_later (Nat.le_refl _) (hP _ (by exact HL1.out.later hpos1))))) | quiet_step ((go_at_call 36; (with_reducible exact calls_later (Nat.le_refl _) (hP _ (by exact HL1.out.later hpos1))))))
          refine wpQuiet_nil ?_
          intro w1 hb
          obtain ⟨hc, hf⟩ := bcell hb
          go_wp2_with fail
          all_goals go_ret
          all_goals refine ⟨ret_bool ?_, (by with_reducible (repeat (first | assumption | exact Below.refl _ _ | refine Below.drew ?_ | refine below_drewN ?_ _ | refine Below.alloc ?_ (by first | (simp; done) | omega | (simp; omega)) _ | refine Below.setCell ?_ (by first | (simp; done) | omega | (simp; omega)) _ | refine Below.trans ?_ (Below.mono (by assumption) (by first | (simp; done) | omega | (simp; omega))))))⟩
          all_goals (have hq := HQ.out; clear HQ HL HL1 hK hP hN hc hf; first | (simp_all; done) | (simp_all; omega) | (rw [hq, Bool.eq_iff_iff]; simp [*] <;> omega) | (rw [hq, Bool.eq_iff_iff]; simp; grind))
        · rw [if_neg h0] at HQ
          simp only [if_true, decide_true, Bool.true_and, Bool.and_true] at HQ
          have HQ := Lib.hid HQ
          have h0b : (to == 0) = false := by simpa using h0
          go_enter Tryd.func31, Tryd.ntmps31
          go_wp2_with (go_at_call 53; go_must ((with_reducible refine (hK _).mono ?_); rintro e w1 ⟨rfl, hb⟩; obtain ⟨hc, hf⟩ := bcell hb; have hz := hb.size; (try simp at hz); (try have hzT := Nat.lt_of_succ_le hz); have hzA : w.heap.size < w1.heap.size := (by omega); have hzA2 := Nat.le_of_lt hzA))
          have hB1 : Below w.heap.size w w1 := (by with_reducible (repeat (first | assumption | exact Below.refl _ _ | refine Below.drew ?_ | refine below_drewN ?_ _ | refine Below.alloc ?_ (by first | (simp; done) | omega | (simp; omega)) _ | refine Below.setCell ?_ (by first | (simp; done) | omega | (simp; omega)) _ | refine Below.trans ?_ (Below.mono (by assumption) (by first | (simp; done) | omega | (simp; omega))))))
          have HL1 := Lib.hid (HL.out.below hB1 hpos)
          have hpos1 : 0 < w1.heap.size := by omega
          refine region_later (by kernel_rfl) (by kernel_rfl) ?_
          repeat (first | go_big_quiet_step ((go_at_call 36; (with_reducible exact calls_later (Nat.le_refl _) (hP _ (by exact HL1.out.later hpos1))))) | quiet_step ((go_at_call 36; (with_reducible exact calls_later (Nat.le_refl _) (hP _ (by exact HL1.out.later hpos1))))))
          refine wpQuiet_nil ?_
          intro w1 hb
          obtain ⟨hc, hf⟩ := bcell hb
          have hz2 := hb.size
          have hzB : w.heap.size < w1.heap.size := (by first | omega | (simp at hz2; omega))
          go_wp2_with (go_at_call 38; go_must ((with_reducible refine (hN _).mono ?_); rintro e w1 ⟨rfl, hb⟩; obtain ⟨hc, hf⟩ := bcell hb; have hz := hb.size; (try simp at hz); (try have hzT := Nat.lt_of_succ_le hz)))
          all_goals go_ret
          all_goals refine ⟨ret_bool ?_, (by with_reducible (repeat (first | assumption | exact Below.refl _ _ | refine Below.drew ?_ | refine below_drewN ?_ _ | refine Below.alloc ?_ (by first | (simp; done) | omega | (simp; omega)) _ | refine Below.setCell ?_ (by first | (simp; done) | omega | (simp; omega)) _ | refine Below.trans ?_ (Below.mono (by assumption) (by first | (simp; done) | omega | (simp; omega))))))⟩
          all_goals (have hq := HQ.out; clear HQ HL HL1 hK hP hN hc hf; first | (simp_all; done) | (simp_all; omega) | (rw [hq, Bool.eq_iff_iff]; simp [*] <;> omega) | (rw [hq, Bool.eq_iff_iff]; simp; grind))
      · have hcb : (c == 0) = false := by simpa using hc
        have hcn : (c != 0) = true := by simpa using hc
        rw [decide_eq_false hc] at HQ
        simp only [Bool.and_false, Bool.false_and] at HQ
        have HQ := Lib.hid HQ
        clear hc
        go_enter Tryd.func31, Tryd.ntmps31
        go_wp2_with (go_at_call 53; go_must ((with_reducible refine (hK _).mono ?_); rintro e w1 ⟨rfl, hb⟩; obtain ⟨hc, hf⟩ := bcell hb; have hz := hb.size; (try simp at hz); (try have hzT := Nat.lt_of_succ_le hz); have hzA : w.heap.size < w1.heap.size := (by omega); have hzA2 := Nat.le_of_lt hzA))
        have hB1 : Below w.heap.size w w1 := (by with_reducible (repeat (first | assumption | exact Below.refl _ _ | refine Below.drew ?_ | refine below_drewN ?_ _ | refine Below.alloc ?_ (by first | (simp; done) | omega | (simp; omega)) _ | refine Below.setCell ?_ (by first | (simp; done) | omega | (simp; omega)) _ | refine Below.trans ?_ (Below.mono (by assumption) (by first | (simp; done) | omega | (simp; omega))))))
        have HL1 := Lib.hid (HL.out.below hB1 hpos)
        have hpos1 : 0 < w1.heap.size := by omega
        refine region_later (by kernel_rfl) (by kernel_rfl) ?_
        repeat (first | go_big_quiet_step ((go_at_call 36; (with_reducible exact calls_later (Nat.le_refl _) (hP _ (by exact HL1.out.later hpos1))))) | quiet_step ((go_at_call 36; (with_reducible exact calls_later (Nat.le_refl _) (hP _ (by exact HL1.out.later hpos1))))))
        refine wpQuiet_nil ?_
        intro w1 hb
        obtain ⟨hc, hf⟩ := bcell hb
        go_wp2_with fail
        go_ret
        exact ⟨by rw [HQ.out]; rfl, (by with_reducible (repeat (first | assumption | exact Below.refl _ _ | refine Below.drew ?_ | refine below_drewN ?_ _ | refine Below.alloc ?_ (by first | (simp; done) | omega | (simp; omega)) _ | refine Below.setCell ?_ (by first | (simp; done) | omega | (simp; omega)) _ | refine Below.trans ?_ (Below.mono (by assumption) (by first | (simp; done) | omega | (simp; omega))))))⟩
    · have htb : (to == p) = false := by simpa using ht
      have htn : (to != p) = true := by simpa using ht
      have htb2 : (p == to) = false := by simpa using fun h => ht h.symm
      have htn2 : (p != to) = true := by simpa using fun h => ht h.symm
      rw [decide_eq_false ht] at HQ
      simp only [Bool.and_false, Bool.false_and] at HQ
      have HQ := Lib.hid HQ
      clear ht
      go_enter Tryd.func31, Tryd.ntmps31
      go_wp2_with (go_at_call 53; go_must ((with_reducible refine (hK _).mono ?_); rintro e w1 ⟨rfl, hb⟩; obtain ⟨hc, hf⟩ := bcell hb; have hz := hb.size; (try simp at hz); (try have hzT := Nat.lt_of_succ_le hz); have hzA : w.heap.size < w1.heap.size := (by omega); have hzA2 := Nat.le_of_lt hzA))
      have hB1 : Below w.heap.size w w1 := (by with_reducible (repeat (first | assumption | exact Below.refl _ _ | refine Below.drew ?_ | refine below_drewN ?_ _ | refine Below.alloc ?_ (by first | (simp; done) | omega | (simp; omega)) _ | refine Below.setCell ?_ (by first | (simp; done) | omega | (simp; omega)) _ | refine Below.trans ?_ (Below.mono (by assumption) (by first | (simp; done) | omega | (simp; omega))))))
      have HL1 := Lib.hid (HL.out.below hB1 hpos)
      have hpos1 : 0 < w1.heap.size := by omega
      refine region_later (by kernel_rfl) (by kernel_rfl) ?_
      repeat (first | go_big_quiet_step ((go_at_call 36; (with_reducible exact calls_later (Nat.le_refl _) (hP _ (by exact HL1.out.later hpos1))))) | quiet_step ((go_at_call 36; (with_reducible exact calls_later (Nat.le_refl _) (hP _ (by exact HL1.out.later hpos1))))))
      refine wpQuiet_nil ?_
      intro w1 hb
      obtain ⟨hc, hf⟩ := bcell hb
      go_wp2_with fail
      go_ret
      exact ⟨by rw [HQ.out]; rfl, (by with_reducible (repeat (first | assumption | exact Below.refl _ _ | refine Below.drew ?_ | refine below_drewN ?_ _ | refine Below.alloc ?_ (by first | (simp; done) | omega | (simp; omega)) _ | refine Below.setCell ?_ (by first | (simp; done) | omega | (simp; omega)) _ | refine Below.trans ?_ (Below.mono (by assumption) (by first | (simp; done) | omega | (simp; omega))))))⟩
set_option maxHeartbeats 4000000 in
set_option maxRecDepth 100000 in
theorem refMay_any (m : MsgS) (w : World) (h1 : m.sku.length ≤ maxLen) (_hL : Laid w) : Calls Tryd.prog 32 #[m.v] w fun e w' => e = .returned (.bool (mayMsg m)) ∧ Below w.heap.size w w' := by
  obtain ⟨to, o, d, sku, q, a, c⟩ := m
  have HQ : mayMsg ⟨to, o, d, sku, q, a, c⟩ = mayMsg ⟨to, o, d, sku, q, a, c⟩ := rfl
  conv at HQ => rhs; unfold mayMsg
  simp only at h1 HQ
  have hN := fun w => refName_any sku w h1
  have hK := fun w => refKeyCheck_any o d w
  have hP := fun w => refParty_any d w
  unfold maxLen at h1
  simp only [MsgS.v]
  cases hk : keyOk o d
  · rw [hk] at HQ hK
    simp only [Bool.false_and] at HQ
    have HQ := Lib.hid HQ
    clear hk
    go_enter Tryd.func32, Tryd.ntmps32
    go_wp2_with fail
    refine region_later (by kernel_rfl) (by kernel_rfl) ?_
    repeat (first | go_big_quiet_step ((go_at_call 46; (with_reducible exact calls_later (by first | exact Nat.le_refl _ | (simp; done)) (hK _)))) | quiet_step ((go_at_call 46; (with_reducible exact calls_later (by first | exact Nat.le_refl _ | (simp; done)) (hK _)))))
    refine wpQuiet_nil ?_
    intro w1 hb
    obtain ⟨hc, hf⟩ := bcell hb
    go_wp2_with fail
    go_ret
    exact ⟨by rw [HQ.out]; rfl, (by with_reducible (repeat (first | assumption | exact Below.refl _ _ | refine Below.drew ?_ | refine below_drewN ?_ _ | refine Below.alloc ?_ (by first | (simp; done) | omega | (simp; omega)) _ | refine Below.setCell ?_ (by first | (simp; done) | omega | (simp; omega)) _ | refine Below.trans ?_ (Below.mono (by assumption) (by first | (simp; done) | omega | (simp; omega))))))⟩
  · rw [hk] at HQ hK
    clear hk
    generalize partyOf d = p at *
    by_cases ht : to = p
    · subst ht
      by_cases hc : c = 0
      · subst hc
        by_cases h0 : to = 0
        · subst h0
          simp only [if_true, decide_true, Bool.true_and, Bool.and_true] at HQ
          have HQ := Lib.hid HQ
          go_enter Tryd.func32, Tryd.ntmps32
          go_wp2_with fail
          refine region_later (by kernel_rfl) (by kernel_rfl) ?_
          repeat (first | go_big_quiet_step ((first | (go_at_call 46; (with_reducible exact calls_later (by first | exact Nat.le_refl _ | (simp; done)) (hK _))) | (go_at_call 37; (with_reducible exact calls_later (by first | exact Nat.le_refl _ | (simp; done)) (hP _))))) | quiet_step ((first | (go_at_call 46; (with_reducible exact calls_later (by first | exact Nat.le_refl _ | (simp; done)) (hK _))) | (go_at_call 37; (with_reducible exact calls_later (by first | exact Nat.le_refl _ | (simp; done)) (hP _))))))
          refine wpQuiet_nil ?_
          intro w1 hb
          obtain ⟨hc, hf⟩ := bcell hb
          go_wp2_with fail
          all_goals go_ret
          all_goals refine ⟨ret_bool ?_, (by with_reducible (repeat (first | assumption | exact Below.refl _ _ | refine Below.drew ?_ | refine below_drewN ?_ _ | refine Below.alloc ?_ (by first | (simp; done) | omega | (simp; omega)) _ | refine Below.setCell ?_ (by first | (simp; done) | omega | (simp; omega)) _ | refine Below.trans ?_ (Below.mono (by assumption) (by first | (simp; done) | omega | (simp; omega))))))⟩
          all_goals (have hq := HQ.out; clear HQ hK hP hN hc hf; first | (simp_all; done) | (simp_all; omega) | (rw [hq, Bool.eq_iff_iff]; simp [*] <;> omega) | (rw [hq, Bool.eq_iff_iff]; simp; grind))
        · rw [if_neg h0] at HQ
          simp only [if_true, decide_true, Bool.true_and, Bool.and_true] at HQ
          have HQ := Lib.hid HQ
          have h0b : (to == 0) = false := by simpa using h0
          go_enter Tryd.func32, Tryd.ntmps32
          go_wp2_with fail
          refine region_later (by kernel_rfl) (by kernel_rfl) ?_
          repeat (first | go_big_quiet_step ((first | (go_at_call 46; (with_reducible exact calls_later (by first | exact Nat.le_refl _ | (simp; done)) (hK _))) | (go_at_call 37; (with_reducible exact calls_later (by first | exact Nat.le_refl _ | (simp; done)) (hP _))))) | quiet_step ((first | (go_at_call 46; (with_reducible exact calls_later (by first | exact Nat.le_refl _ | (simp; done)) (hK _))) | (go_at_call 37; (with_reducible exact calls_later (by first | exact Nat.le_refl _ | (simp; done)) (hP _))))))
          refine wpQuiet_nil ?_
          intro w1 hb
          obtain ⟨hc, hf⟩ := bcell hb
          have hz2 := hb.size
          have hzB : w.heap.size < w1.heap.size := (by first | omega | (simp at hz2; omega))
          go_wp2_with (go_at_call 39; go_must ((with_reducible refine (hN _).mono ?_); rintro e w1 ⟨rfl, hb⟩; obtain ⟨hc, hf⟩ := bcell hb; have hz := hb.size; (try simp at hz); (try have hzT := Nat.lt_of_succ_le hz)))
          all_goals go_ret
          all_goals refine ⟨ret_bool ?_, (by with_reducible (repeat (first | assumption | exact Below.refl _ _ | refine Below.drew ?_ | refine below_drewN ?_ _ | refine Below.alloc ?_ (by first | (simp; done) | omega | (simp; omega)) _ | refine Below.setCell ?_ (by first | (simp; done) | omega | (simp; omega)) _ | refine Below.trans ?_ (Below.mono (by assumption) (by first | (simp; done) | omega | (simp; omega))))))⟩
          all_goals (have hq := HQ.out; clear HQ hK hP hN hc hf; first | (simp_all; done) | (simp_all; omega) | (rw [hq, Bool.eq_iff_iff]; simp [*] <;> omega) | (rw [hq, Bool.eq_iff_iff]; simp; grind))
      · have hcb : (c == 0) = false := by simpa using hc
        have hcn : (c != 0) = true := by simpa using hc
        rw [decide_eq_false hc] at HQ
        simp only [Bool.and_false, Bool.false_and] at HQ
        have HQ := Lib.hid HQ
        clear hc
        go_enter Tryd.func32, Tryd.ntmps32
        go_wp2_with fail
        refine region_later (by kernel_rfl) (by kernel_rfl) ?_
        repeat (first | go_big_quiet_step ((first | (go_at_call 46; (with_reducible exact calls_later (by first | exact Nat.le_refl _ | (simp; done)) (hK _))) | (go_at_call 37; (with_reducible exact calls_later (by first | exact Nat.le_refl _ | (simp; done)) (hP _))))) | quiet_step ((first | (go_at_call 46; (with_reducible exact calls_later (by first | exact Nat.le_refl _ | (simp; done)) (hK _))) | (go_at_call 37; (with_reducible exact calls_later (by first | exact Nat.le_refl _ | (simp; done)) (hP _))))))
        refine wpQuiet_nil ?_
        intro w1 hb
        obtain ⟨hc, hf⟩ := bcell hb
        go_wp2_with fail
        go_ret
        exact ⟨by rw [HQ.out]; rfl, (by with_reducible (repeat (first | assumption | exact Below.refl _ _ | refine Below.drew ?_ | refine below_drewN ?_ _ | refine Below.alloc ?_ (by first | (simp; done) | omega | (simp; omega)) _ | refine Below.setCell ?_ (by first | (simp; done) | omega | (simp; omega)) _ | refine Below.trans ?_ (Below.mono (by assumption) (by first | (simp; done) | omega | (simp; omega))))))⟩
    · have htb : (to == p) = false := by simpa using ht
      have htn : (to != p) = true := by simpa using ht
      have htb2 : (p == to) = false := by simpa using fun h => ht h.symm
      have htn2 : (p != to) = true := by simpa using fun h => ht h.symm
      rw [decide_eq_false ht] at HQ
      simp only [Bool.and_false, Bool.false_and] at HQ
      have HQ := Lib.hid HQ
      clear ht
      go_enter Tryd.func32, Tryd.ntmps32
      go_wp2_with fail
      refine region_later (by kernel_rfl) (by kernel_rfl) ?_
      repeat (first | go_big_quiet_step ((first | (go_at_call 46; (with_reducible exact calls_later (by first | exact Nat.le_refl _ | (simp; done)) (hK _))) | (go_at_call 37; (with_reducible exact calls_later (by first | exact Nat.le_refl _ | (simp; done)) (hP _))))) | quiet_step ((first | (go_at_call 46; (with_reducible exact calls_later (by first | exact Nat.le_refl _ | (simp; done)) (hK _))) | (go_at_call 37; (with_reducible exact calls_later (by first | exact Nat.le_refl _ | (simp; done)) (hP _))))))
      refine wpQuiet_nil ?_
      intro w1 hb
      obtain ⟨hc, hf⟩ := bcell hb
      go_wp2_with fail
      go_ret
      exact ⟨by rw [HQ.out]; rfl, (by with_reducible (repeat (first | assumption | exact Below.refl _ _ | refine Below.drew ?_ | refine below_drewN ?_ _ | refine Below.alloc ?_ (by first | (simp; done) | omega | (simp; omega)) _ | refine Below.setCell ?_ (by first | (simp; done) | omega | (simp; omega)) _ | refine Below.trans ?_ (Below.mono (by assumption) (by first | (simp; done) | omega | (simp; omega))))))⟩

end Go.Proofs.YtkgjcbkmdpndhaaDoor

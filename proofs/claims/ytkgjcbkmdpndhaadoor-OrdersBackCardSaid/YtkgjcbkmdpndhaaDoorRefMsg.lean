/-
  What parties are asked for an order, by walking the document's text: the same; conditions: texts no longer than memory bears.
-/
import Derived.Test.YtkgjcbkmdpndhaaDoorMsg
namespace Go.Proofs.YtkgjcbkmdpndhaaDoor
open Go.RowKit Go.Own

set_option maxHeartbeats 2000000 in
theorem refMsg_any (id : Int) (ref sku : List UInt8) (qty amt d : Int) (w : World) (h1 : ref.length ≤ maxLen) (h2 : sku.length ≤ maxLen) :
    Calls Tryd.prog 14 #[.agg #[.int .i64 id, .string ⟨ref.toArray⟩, .string ⟨sku.toArray⟩, .int .i64 qty, .int .i64 amt], .int .i64 d] w fun e w' => e = .returned (msgOf id ref sku qty amt d).v ∧ Below w.heap.size w w' := by
  have C := fun w => refOrdCheck_any id ref sku qty amt w h1 h2
  have hP := fun w => refParty_any d w
  by_cases hc0 : ordCheck id ref sku qty amt = 0
  · rw [hc0] at C
    by_cases hp : partyOf d < 0
    · have HQ := Lib.hid (show msgOf id ref sku qty amt d = ⟨0, 0, 0, [], 0, 0, 0⟩ by rw [msgOf, if_pos (.inl hp)])
      clear hc0
      go_enter Tryd.func14, Tryd.ntmps14
      go_wp2_with (first | (go_at_call 37; go_must ((with_reducible refine (hP _).mono ?_); rintro e w1 ⟨rfl, hb⟩; obtain ⟨hc, hf⟩ := bcell hb; have hz := hb.size; (try simp at hz); (try have hzT := Nat.lt_of_succ_le hz); have hzA : w.heap.size < w1.heap.size := (by omega); have hzB : w.heap.size + 1 < w1.heap.size := (by omega); have hzA2 := Nat.le_of_lt hzA; have hzB2 := Nat.le_of_lt hzB)) | (go_at_call 16; go_must ((with_reducible refine (C _).mono ?_); rintro e w1 ⟨rfl, hb⟩; obtain ⟨hc, hf⟩ := bcell hb; have hz := hb.size; (try simp at hz); (try have hzT := Nat.lt_of_succ_le hz); have hzA : w.heap.size < w1.heap.size := (by omega); have hzB : w.heap.size + 1 < w1.heap.size := (by omega); have hzA2 := Nat.le_of_lt hzA; have hzB2 := Nat.le_of_lt hzB)))
      refine bodyPost_ret (v := (⟨0, 0, 0, [], 0, 0, 0⟩ : MsgS).v) ?_ rfl ⟨by rw [HQ.out], ?_⟩
      · simp [results, Tryd.results14, go_sem, MsgS.v, *]
      · exact (by with_reducible (repeat (first | assumption | exact Below.refl _ _ | refine Below.drew ?_ | refine below_drewN ?_ _ | refine Below.alloc ?_ (by first | (simp; done) | omega | (simp; omega)) _ | refine Below.setCell ?_ (by first | (simp; done) | omega | (simp; omega)) _ | refine Below.trans ?_ (Below.mono (by assumption) (by first | (simp; done) | omega | (simp; omega))))))
    · have hp0 : (0 : Int) ≤ partyOf d := by omega
      by_cases hq : partyOf d = 0
      · have HQ := Lib.hid (show msgOf id ref sku qty amt d = ⟨0, id, d, [], 0, amt, 0⟩ by rw [msgOf, if_neg (by simp [hp, hc0]), if_pos hq])
        rw [hq] at hP
        clear hc0 hq hp hp0
        go_enter Tryd.func14, Tryd.ntmps14
        go_wp2_with (first | (go_at_call 37; go_must ((with_reducible refine (hP _).mono ?_); rintro e w1 ⟨rfl, hb⟩; obtain ⟨hc, hf⟩ := bcell hb; have hz := hb.size; (try simp at hz); (try have hzT := Nat.lt_of_succ_le hz); have hzA : w.heap.size < w1.heap.size := (by omega); have hzB : w.heap.size + 1 < w1.heap.size := (by omega); have hzA2 := Nat.le_of_lt hzA; have hzB2 := Nat.le_of_lt hzB)) | (go_at_call 16; go_must ((with_reducible refine (C _).mono ?_); rintro e w1 ⟨rfl, hb⟩; obtain ⟨hc, hf⟩ := bcell hb; have hz := hb.size; (try simp at hz); (try have hzT := Nat.lt_of_succ_le hz); have hzA : w.heap.size < w1.heap.size := (by omega); have hzB : w.heap.size + 1 < w1.heap.size := (by omega); have hzA2 := Nat.le_of_lt hzA; have hzB2 := Nat.le_of_lt hzB)))
        refine bodyPost_ret (v := (⟨0, id, d, [], 0, amt, 0⟩ : MsgS).v) ?_ rfl ⟨by rw [HQ.out], ?_⟩
        · simp [results, Tryd.results14, go_sem, MsgS.v, *]
        · exact (by with_reducible (repeat (first | assumption | exact Below.refl _ _ | refine Below.drew ?_ | refine below_drewN ?_ _ | refine Below.alloc ?_ (by first | (simp; done) | omega | (simp; omega)) _ | refine Below.setCell ?_ (by first | (simp; done) | omega | (simp; omega)) _ | refine Below.trans ?_ (Below.mono (by assumption) (by first | (simp; done) | omega | (simp; omega))))))
      · have HQ := Lib.hid (show msgOf id ref sku qty amt d = ⟨partyOf d, id, d, sku, qty, 0, 0⟩ by rw [msgOf, if_neg (by simp [hp, hc0]), if_neg hq])
        have hq0 : (partyOf d == 0) = false := by simpa using hq
        generalize partyOf d = p at *
        clear hc0 hq hp
        go_enter Tryd.func14, Tryd.ntmps14
        go_wp2_with (first | (go_at_call 37; go_must ((with_reducible refine (hP _).mono ?_); rintro e w1 ⟨rfl, hb⟩; obtain ⟨hc, hf⟩ := bcell hb; have hz := hb.size; (try simp at hz); (try have hzT := Nat.lt_of_succ_le hz); have hzA : w.heap.size < w1.heap.size := (by omega); have hzB : w.heap.size + 1 < w1.heap.size := (by omega); have hzA2 := Nat.le_of_lt hzA; have hzB2 := Nat.le_of_lt hzB)) | (go_at_call 16; go_must ((with_reducible refine (C _).mono ?_); rintro e w1 ⟨rfl, hb⟩; obtain ⟨hc, hf⟩ := bcell hb; have hz := hb.size; (try simp at hz); (try have hzT := Nat.lt_of_succ_le hz); have hzA : w.heap.size < w1.heap.size := (by omega); have hzB : w.heap.size + 1 < w1.heap.size := (by omega); have hzA2 := Nat.le_of_lt hzA; have hzB2 := Nat.le_of_lt hzB)))
        refine region_later_tail 11 (by kernel_rfl) (by kernel_rfl) (by kernel_rfl) (by decide) ?_
        simp only [List.take_succ_cons, List.take_zero, List.drop_succ_cons, List.drop_zero]
        repeat (first | go_big_quiet_step ((go_at_call 37; (with_reducible exact calls_later (Nat.le_refl _) (hP _)))) | quiet_step ((go_at_call 37; (with_reducible exact calls_later (Nat.le_refl _) (hP _)))))
        refine wpQuiet_nil ?_
        intro w1 hb
        obtain ⟨hc, hf⟩ := bcell hb
        have hz := hb.size
        have hzA : w.heap.size < w1.heap.size := by omega
        have hzB : w.heap.size + 1 < w1.heap.size := by omega
        go_wp2_with fail
        refine bodyPost_ret (v := (⟨p, id, d, sku, qty, 0, 0⟩ : MsgS).v) ?_ rfl ⟨by rw [HQ.out], ?_⟩
        · simp [results, Tryd.results14, go_sem, MsgS.v, *]
        · exact (by with_reducible (repeat (first | assumption | exact Below.refl _ _ | refine Below.drew ?_ | refine below_drewN ?_ _ | refine Below.alloc ?_ (by first | (simp; done) | omega | (simp; omega)) _ | refine Below.setCell ?_ (by first | (simp; done) | omega | (simp; omega)) _ | refine Below.trans ?_ (Below.mono (by assumption) (by first | (simp; done) | omega | (simp; omega))))))
  · have HQ := Lib.hid (show msgOf id ref sku qty amt d = ⟨0, 0, 0, [], 0, 0, 0⟩ by rw [msgOf, if_pos (.inr hc0)])
    have hc1 : (ordCheck id ref sku qty amt == 0) = false := by simpa using hc0
    have hc2 : (ordCheck id ref sku qty amt != 0) = true := by simpa using hc0
    clear hc0
    go_enter Tryd.func14, Tryd.ntmps14
    go_wp2_with (first | (go_at_call 37; go_must ((with_reducible refine (hP _).mono ?_); rintro e w1 ⟨rfl, hb⟩; obtain ⟨hc, hf⟩ := bcell hb; have hz := hb.size; (try simp at hz); (try have hzT := Nat.lt_of_succ_le hz); have hzA : w.heap.size < w1.heap.size := (by omega); have hzB : w.heap.size + 1 < w1.heap.size := (by omega); have hzA2 := Nat.le_of_lt hzA; have hzB2 := Nat.le_of_lt hzB)) | (go_at_call 16; go_must ((with_reducible refine (C _).mono ?_); rintro e w1 ⟨rfl, hb⟩; obtain ⟨hc, hf⟩ := bcell hb; have hz := hb.size; (try simp at hz); (try have hzT := Nat.lt_of_succ_le hz); have hzA : w.heap.size < w1.heap.size := (by omega); have hzB : w.heap.size + 1 < w1.heap.size := (by omega); have hzA2 := Nat.le_of_lt hzA; have hzB2 := Nat.le_of_lt hzB)))
    refine bodyPost_ret (v := (⟨0, 0, 0, [], 0, 0, 0⟩ : MsgS).v) ?_ rfl ⟨by rw [HQ.out], ?_⟩
    · simp [results, Tryd.results14, go_sem, MsgS.v, *]
    · exact (by with_reducible (repeat (first | assumption | exact Below.refl _ _ | refine Below.drew ?_ | refine below_drewN ?_ _ | refine Below.alloc ?_ (by first | (simp; done) | omega | (simp; omega)) _ | refine Below.setCell ?_ (by first | (simp; done) | omega | (simp; omega)) _ | refine Below.trans ?_ (Below.mono (by assumption) (by first | (simp; done) | omega | (simp; omega))))))
end Go.Proofs.YtkgjcbkmdpndhaaDoor

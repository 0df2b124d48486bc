/-
  What parties are asked for an order, by walking the text; conditions: texts no longer than memory bears.
-/
import Derived.Test.YtkgjcbkmdpndhaaDoorOrders
import Derived.RegionTactic
import Derived.ChangeAlike
import Derived.BigRegion
namespace Go.Proofs.YtkgjcbkmdpndhaaDoor
open Go.RowKit Go.Own

structure MsgS where
  to : Int
  o : Int
  d : Int
  sku : List UInt8
  q : Int
  a : Int
  c : Int
def MsgS.v (m : MsgS) : Value := .agg #[.int .i64 m.to, .int .i64 m.o, .int .i64 m.d, .string ⟨m.sku.toArray⟩, .int .i64 m.q, .int .i64 m.a, .int .i64 m.c]
def msgOf (id : Int) (ref sku : List UInt8) (qty amt d : Int) : MsgS :=
  if partyOf d < 0 ∨ ordCheck id ref sku qty amt ≠ 0 then ⟨0, 0, 0, [], 0, 0, 0⟩
  else if partyOf d = 0 then ⟨0, id, d, [], 0, amt, 0⟩ else ⟨partyOf d, id, d, sku, qty, 0, 0⟩

set_option maxHeartbeats 2000000 in
theorem msg_any (id : Int) (ref sku : List UInt8) (qty amt d : Int) (w : World) (h1 : ref.length ≤ maxLen) (h2 : sku.length ≤ maxLen) (hL : Laid w) :
    Calls Tryd.prog 13 #[.agg #[.int .i64 id, .string ⟨ref.toArray⟩, .string ⟨sku.toArray⟩, .int .i64 qty, .int .i64 amt], .int .i64 d] w fun e w' => e = .returned (msgOf id ref sku qty amt d).v ∧ Below w.heap.size w w' := by
  have C := fun w => ordCheck_any id ref sku qty amt w h1 h2
  have HL := Lib.hid hL
  have hpos : 0 < w.heap.size := hL.1
  clear hL
  by_cases hp : partyOf d < 0
  · have HQ := Lib.hid (show msgOf id ref sku qty amt d = ⟨0, 0, 0, [], 0, 0, 0⟩ by rw [msgOf, if_pos (.inl hp)])
    go_enter Tryd.func13, Tryd.ntmps13
    go_wp2_with (go_at_call 36; go_must ((with_reducible refine (party_any _ _ (by exact HL.out.below (by with_reducible (repeat (first | assumption | exact Below.refl _ _ | refine Below.drew ?_ | refine below_drewN ?_ _ | refine Below.alloc ?_ (by first | (simp; done) | omega | (simp; omega)) _ | refine Below.setCell ?_ (by first | (simp; done) | omega | (simp; omega)) _ | refine Below.trans ?_ (Below.mono (by assumption) (by first | (simp; done) | omega | (simp; omega)))))) hpos)).mono ?_); rintro e w1 ⟨rfl, hb⟩; obtain ⟨hc, hf⟩ := bcell hb; have hz := hb.size; (try simp at hz); (try have hzT := Nat.lt_of_succ_le hz); have hzA : w.heap.size < w1.heap.size := (by omega); have hzB : w.heap.size + 1 < w1.heap.size := (by omega); have hzA2 := Nat.le_of_lt hzA; have hzB2 := Nat.le_of_lt hzB))
    refine bodyPost_ret (v := (⟨0, 0, 0, [], 0, 0, 0⟩ : MsgS).v) ?_ rfl ⟨by rw [HQ.out], ?_⟩
    · simp [results, Tryd.results13, go_sem, MsgS.v, *]
    · exact (by with_reducible (repeat (first | assumption | exact Below.refl _ _ | refine Below.drew ?_ | refine below_drewN ?_ _ | refine Below.alloc ?_ (by first | (simp; done) | omega | (simp; omega)) _ | refine Below.setCell ?_ (by first | (simp; done) | omega | (simp; omega)) _ | refine Below.trans ?_ (Below.mono (by assumption) (by first | (simp; done) | omega | (simp; omega))))))
  · by_cases hc0 : ordCheck id ref sku qty amt = 0
    · rw [hc0] at C
      have hp0 : (0 : Int) ≤ partyOf d := by omega
      by_cases hq : partyOf d = 0
      · have HQ := Lib.hid (show msgOf id ref sku qty amt d = ⟨0, id, d, [], 0, amt, 0⟩ by rw [msgOf, if_neg (by simp [hp, hc0]), if_pos hq])
        have HP := Lib.hid hq
        have hP := fun w hL => party_any d w hL
        rw [hq] at hP
        clear hq hp hc0 hp0
        go_enter Tryd.func13, Tryd.ntmps13
        go_wp2_with (first | (go_at_call 36; go_must ((with_reducible refine (hP _ (by exact HL.out.below (by with_reducible (repeat (first | assumption | exact Below.refl _ _ | refine Below.drew ?_ | refine below_drewN ?_ _ | refine Below.alloc ?_ (by first | (simp; done) | omega | (simp; omega)) _ | refine Below.setCell ?_ (by first | (simp; done) | omega | (simp; omega)) _ | refine Below.trans ?_ (Below.mono (by assumption) (by first | (simp; done) | omega | (simp; omega)))))) hpos)).mono ?_); rintro e w1 ⟨rfl, hb⟩; obtain ⟨hc, hf⟩ := bcell hb; have hz := hb.size; (try simp at hz); (try have hzT := Nat.lt_of_succ_le hz); have hzA : w.heap.size < w1.heap.size := (by omega); have hzB : w.heap.size + 1 < w1.heap.size := (by omega); have hzA2 := Nat.le_of_lt hzA; have hzB2 := Nat.le_of_lt hzB)) | (go_at_call 15; go_must ((with_reducible refine (C _).mono ?_); rintro e w1 ⟨rfl, hb⟩; obtain ⟨hc, hf⟩ := bcell hb; have hz := hb.size; (try simp at hz); (try have hzT := Nat.lt_of_succ_le hz); have hzA : w.heap.size < w1.heap.size := (by omega); have hzB : w.heap.size + 1 < w1.heap.size := (by omega); have hzA2 := Nat.le_of_lt hzA; have hzB2 := Nat.le_of_lt hzB)))
        refine bodyPost_ret (v := (⟨0, id, d, [], 0, amt, 0⟩ : MsgS).v) ?_ rfl ⟨by rw [HQ.out], ?_⟩
        · simp [results, Tryd.results13, go_sem, MsgS.v, *]
        · exact (by with_reducible (repeat (first | assumption | exact Below.refl _ _ | refine Below.drew ?_ | refine below_drewN ?_ _ | refine Below.alloc ?_ (by first | (simp; done) | omega | (simp; omega)) _ | refine Below.setCell ?_ (by first | (simp; done) | omega | (simp; omega)) _ | refine Below.trans ?_ (Below.mono (by assumption) (by first | (simp; done) | omega | (simp; omega))))))
      · have HQ := Lib.hid (show msgOf id ref sku qty amt d = ⟨partyOf d, id, d, sku, qty, 0, 0⟩ by rw [msgOf, if_neg (by simp [hp, hc0]), if_neg hq])
        have hP := fun w hL => party_any d w hL
        have hq0 : (partyOf d == 0) = false := by simpa using hq
        generalize partyOf d = p at *
        clear hp hc0 hq
        go_enter Tryd.func13, Tryd.ntmps13
        go_wp2_with (first | (go_at_call 36; go_must ((with_reducible refine (hP _ (by exact HL.out.below (by with_reducible (repeat (first | assumption | exact Below.refl _ _ | refine Below.drew ?_ | refine below_drewN ?_ _ | refine Below.alloc ?_ (by first | (simp; done) | omega | (simp; omega)) _ | refine Below.setCell ?_ (by first | (simp; done) | omega | (simp; omega)) _ | refine Below.trans ?_ (Below.mono (by assumption) (by first | (simp; done) | omega | (simp; omega)))))) hpos)).mono ?_); rintro e w1 ⟨rfl, hb⟩; obtain ⟨hc, hf⟩ := bcell hb; have hz := hb.size; (try simp at hz); (try have hzT := Nat.lt_of_succ_le hz); have hzA : w.heap.size < w1.heap.size := (by omega); have hzB : w.heap.size + 1 < w1.heap.size := (by omega); have hzA2 := Nat.le_of_lt hzA; have hzB2 := Nat.le_of_lt hzB)) | (go_at_call 15; go_must ((with_reducible refine (C _).mono ?_); rintro e w1 ⟨rfl, hb⟩; obtain ⟨hc, hf⟩ := bcell hb; have hz := hb.size; (try simp at hz); (try have hzT := Nat.lt_of_succ_le hz); have hzA : w.heap.size < w1.heap.size := (by omega); have hzB : w.heap.size + 1 < w1.heap.size := (by omega); have hzA2 := Nat.le_of_lt hzA; have hzB2 := Nat.le_of_lt hzB)))
        go_region
        go_wp2_with fail
        refine bodyPost_ret (v := (⟨p, id, d, sku, qty, 0, 0⟩ : MsgS).v) ?_ rfl ⟨by rw [HQ.out], ?_⟩
        · simp [results, Tryd.results13, go_sem, MsgS.v, *]
        · exact (by with_reducible (repeat (first | assumption | exact Below.refl _ _ | refine Below.drew ?_ | refine below_drewN ?_ _ | refine Below.alloc ?_ (by first | (simp; done) | omega | (simp; omega)) _ | refine Below.setCell ?_ (by first | (simp; done) | omega | (simp; omega)) _ | refine Below.trans ?_ (Below.mono (by assumption) (by first | (simp; done) | omega | (simp; omega))))))
    · have HQ := Lib.hid (show msgOf id ref sku qty amt d = ⟨0, 0, 0, [], 0, 0, 0⟩ by rw [msgOf, if_pos (.inr hc0)])
      have hc1 : (ordCheck id ref sku qty amt == 0) = false := by simpa using hc0
      have hc2 : (ordCheck id ref sku qty amt != 0) = true := by simpa using hc0
      have hp0 : (0 : Int) ≤ partyOf d := by omega
      go_enter Tryd.func13, Tryd.ntmps13
      go_wp2_with (first | (go_at_call 36; go_must ((with_reducible refine (party_any _ _ (by exact HL.out.below (by with_reducible (repeat (first | assumption | exact Below.refl _ _ | refine Below.drew ?_ | refine below_drewN ?_ _ | refine Below.alloc ?_ (by first | (simp; done) | omega | (simp; omega)) _ | refine Below.setCell ?_ (by first | (simp; done) | omega | (simp; omega)) _ | refine Below.trans ?_ (Below.mono (by assumption) (by first | (simp; done) | omega | (simp; omega)))))) hpos)).mono ?_); rintro e w1 ⟨rfl, hb⟩; obtain ⟨hc, hf⟩ := bcell hb; have hz := hb.size; (try simp at hz); (try have hzT := Nat.lt_of_succ_le hz); have hzA : w.heap.size < w1.heap.size := (by omega); have hzB : w.heap.size + 1 < w1.heap.size := (by omega); have hzA2 := Nat.le_of_lt hzA; have hzB2 := Nat.le_of_lt hzB)) | (go_at_call 15; go_must ((with_reducible refine (C _).mono ?_); rintro e w1 ⟨rfl, hb⟩; obtain ⟨hc, hf⟩ := bcell hb; have hz := hb.size; (try simp at hz); (try have hzT := Nat.lt_of_succ_le hz); have hzA : w.heap.size < w1.heap.size := (by omega); have hzB : w.heap.size + 1 < w1.heap.size := (by omega); have hzA2 := Nat.le_of_lt hzA; have hzB2 := Nat.le_of_lt hzB)))
      refine bodyPost_ret (v := (⟨0, 0, 0, [], 0, 0, 0⟩ : MsgS).v) ?_ rfl ⟨by rw [HQ.out], ?_⟩
      · simp [results, Tryd.results13, go_sem, MsgS.v, *]
      · exact (by with_reducible (repeat (first | assumption | exact Below.refl _ _ | refine Below.drew ?_ | refine below_drewN ?_ _ | refine Below.alloc ?_ (by first | (simp; done) | omega | (simp; omega)) _ | refine Below.setCell ?_ (by first | (simp; done) | omega | (simp; omega)) _ | refine Below.trans ?_ (Below.mono (by assumption) (by first | (simp; done) | omega | (simp; omega))))))
end Go.Proofs.YtkgjcbkmdpndhaaDoor

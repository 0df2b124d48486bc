/-
  The law OrdersGet returns true, by walking its text; conditions: texts no longer than memory bears, the table of parties as laid.
-/
import Derived.Test.YtkgjcbkmdpndhaaDoorOrdRef
import Derived.Test.YtkgjcbkmdpndhaaDoorOrdLaw
import Derived.Test.YtkgjcbkmdpndhaaDoorMay
import Derived.Test.YtkgjcbkmdpndhaaDoorDeep
namespace Go.Proofs.YtkgjcbkmdpndhaaDoor
open Go.RowKit Go.Own

set_option maxHeartbeats 4000000 in
set_option maxRecDepth 100000 in
theorem getlaw_any (l : List UInt8) (m : MsgS) (w : World) (hl : l.length ≤ maxLen) (hm : m.sku.length ≤ maxLen) (hL : Laid w) :
    Calls Tryd.prog 7 #[.string ⟨l.toArray⟩, m.v] w fun e w' => e = .returned (.bool true) ∧ Below w.heap.size w w' := by
  have O := ordered_any
  have HL := Lib.hid hL
  have hpos : 0 < w.heap.size := hL.1
  clear hL
  have hG := fun w => get_any l w hl
  have hR := fun w => refGet_any l w hl
  have hM := fun w h => may_any m w hm h
  have hF := fun w h => refMay_any m w hm h
  obtain ⟨to, o, d, sku, q, a, c⟩ := m
  simp only at hm
  generalize mayMsg ⟨to, o, d, sku, q, a, c⟩ = bm at hM hF
  simp only [MsgS.v] at hM hF ⊢
  unfold maxLen at hl hm
  by_cases h300 : 300 < l.length
  · have h3 : (300 : Int) < (l.length : Int) := by omega
    go_enter Tryd.func7, Tryd.ntmps7
    go_wp2_with (go_at_call 12; go_must ((with_reducible refine (O _ (by exact HL.out.below (by with_reducible (repeat (first | assumption | exact Below.refl _ _ | refine Below.drew ?_ | refine below_drewN ?_ _ | refine Below.alloc ?_ (by first | (simp; done) | omega | (simp; omega)) _ | refine Below.setCell ?_ (by first | (simp; done) | omega | (simp; omega)) _ | refine Below.trans ?_ (Below.mono (by assumption) (by first | (simp; done) | omega | (simp; omega)))))) hpos)).mono ?_); rintro e w1 ⟨rfl, hb⟩; obtain ⟨hc, hf⟩ := bcell hb; have hz := hb.size; (try simp at hz); (try have hzT := Nat.lt_of_succ_le hz)))
    go_ret
    exact ⟨rfl, (by with_reducible (repeat (first | assumption | exact Below.refl _ _ | refine Below.drew ?_ | refine below_drewN ?_ _ | refine Below.alloc ?_ (by first | (simp; done) | omega | (simp; omega)) _ | refine Below.setCell ?_ (by first | (simp; done) | omega | (simp; omega)) _ | refine Below.trans ?_ (Below.mono (by assumption) (by first | (simp; done) | omega | (simp; omega))))))⟩
  · have h3 : (l.length : Int) ≤ (300 : Int) := by omega
    by_cases h301 : 300 < sku.length
    · have h4 : (300 : Int) < (sku.length : Int) := by omega
      go_enter Tryd.func7, Tryd.ntmps7
      go_wp2_with (go_at_call 12; go_must ((with_reducible refine (O _ (by exact HL.out.below (by with_reducible (repeat (first | assumption | exact Below.refl _ _ | refine Below.drew ?_ | refine below_drewN ?_ _ | refine Below.alloc ?_ (by first | (simp; done) | omega | (simp; omega)) _ | refine Below.setCell ?_ (by first | (simp; done) | omega | (simp; omega)) _ | refine Below.trans ?_ (Below.mono (by assumption) (by first | (simp; done) | omega | (simp; omega)))))) hpos)).mono ?_); rintro e w1 ⟨rfl, hb⟩; obtain ⟨hc, hf⟩ := bcell hb; have hz := hb.size; (try simp at hz); (try have hzT := Nat.lt_of_succ_le hz)))
      go_ret
      exact ⟨rfl, (by with_reducible (repeat (first | assumption | exact Below.refl _ _ | refine Below.drew ?_ | refine below_drewN ?_ _ | refine Below.alloc ?_ (by first | (simp; done) | omega | (simp; omega)) _ | refine Below.setCell ?_ (by first | (simp; done) | omega | (simp; omega)) _ | refine Below.trans ?_ (Below.mono (by assumption) (by first | (simp; done) | omega | (simp; omega))))))⟩
    · have h4 : (sku.length : Int) ≤ (300 : Int) := by omega
      cases hr : getOrd l with
      | none =>
        rw [hr] at hG hR
        simp only [retGet] at hG hR
        go_enter Tryd.func7, Tryd.ntmps7
        go_wp2_with (first | (go_at_call 29; go_must ((with_reducible refine (hG _).mono ?_); rintro e w1 ⟨rfl, hb⟩; obtain ⟨hc, hf⟩ := bcell hb; have hz := hb.size; (try simp at hz); (try have hzT := Nat.lt_of_succ_le hz); have hzA : w.heap.size < w1.heap.size := (by omega); have hzA2 := Nat.le_of_lt hzA)) | (go_at_call 30; go_must ((with_reducible refine (hR _).mono ?_); rintro e w1 ⟨rfl, hb⟩; obtain ⟨hc, hf⟩ := bcell hb; have hz := hb.size; (try simp at hz); (try have hzT := Nat.lt_of_succ_le hz); have hzA : w.heap.size < w1.heap.size := (by omega); have hzA2 := Nat.le_of_lt hzA)))
        refine region_later (by kernel_rfl) (by kernel_rfl) ?_
        repeat (first | go_big_quiet_step ((first | (go_at_call 31; (with_reducible exact calls_later (by first | exact Nat.le_refl _ | (simp; done)) (hM _ (HL.out.deep hpos (by with_reducible (repeat (first | assumption | exact Below.refl _ _ | refine Below.drew ?_ | refine below_drewN ?_ _ | refine Below.alloc ?_ (by first | (simp; done) | omega | (simp; omega)) _ | refine Below.setCell ?_ (by first | (simp; done) | omega | (simp; omega)) _ | refine Below.trans ?_ (Below.mono (by assumption) (by first | (simp; done) | omega | (simp; omega)))))) (by first | omega | (simp; omega)))))) | (go_at_call 32; (with_reducible exact calls_later (by first | exact Nat.le_refl _ | (simp; done)) (hF _ (HL.out.deep hpos (by with_reducible (repeat (first | assumption | exact Below.refl _ _ | refine Below.drew ?_ | refine below_drewN ?_ _ | refine Below.alloc ?_ (by first | (simp; done) | omega | (simp; omega)) _ | refine Below.setCell ?_ (by first | (simp; done) | omega | (simp; omega)) _ | refine Below.trans ?_ (Below.mono (by assumption) (by first | (simp; done) | omega | (simp; omega)))))) (by first | omega | (simp; omega)))))) | (go_at_call 12; (with_reducible exact calls_later (by first | exact Nat.le_refl _ | (simp; done)) (O _ (HL.out.deep hpos (by with_reducible (repeat (first | assumption | exact Below.refl _ _ | refine Below.drew ?_ | refine below_drewN ?_ _ | refine Below.alloc ?_ (by first | (simp; done) | omega | (simp; omega)) _ | refine Below.setCell ?_ (by first | (simp; done) | omega | (simp; omega)) _ | refine Below.trans ?_ (Below.mono (by assumption) (by first | (simp; done) | omega | (simp; omega)))))) (by first | omega | (simp; omega)))))))) | quiet_step ((first | (go_at_call 31; (with_reducible exact calls_later (by first | exact Nat.le_refl _ | (simp; done)) (hM _ (HL.out.deep hpos (by with_reducible (repeat (first | assumption | exact Below.refl _ _ | refine Below.drew ?_ | refine below_drewN ?_ _ | refine Below.alloc ?_ (by first | (simp; done) | omega | (simp; omega)) _ | refine Below.setCell ?_ (by first | (simp; done) | omega | (simp; omega)) _ | refine Below.trans ?_ (Below.mono (by assumption) (by first | (simp; done) | omega | (simp; omega)))))) (by first | omega | (simp; omega)))))) | (go_at_call 32; (with_reducible exact calls_later (by first | exact Nat.le_refl _ | (simp; done)) (hF _ (HL.out.deep hpos (by with_reducible (repeat (first | assumption | exact Below.refl _ _ | refine Below.drew ?_ | refine below_drewN ?_ _ | refine Below.alloc ?_ (by first | (simp; done) | omega | (simp; omega)) _ | refine Below.setCell ?_ (by first | (simp; done) | omega | (simp; omega)) _ | refine Below.trans ?_ (Below.mono (by assumption) (by first | (simp; done) | omega | (simp; omega)))))) (by first | omega | (simp; omega)))))) | (go_at_call 12; (with_reducible exact calls_later (by first | exact Nat.le_refl _ | (simp; done)) (O _ (HL.out.deep hpos (by with_reducible (repeat (first | assumption | exact Below.refl _ _ | refine Below.drew ?_ | refine below_drewN ?_ _ | refine Below.alloc ?_ (by first | (simp; done) | omega | (simp; omega)) _ | refine Below.setCell ?_ (by first | (simp; done) | omega | (simp; omega)) _ | refine Below.trans ?_ (Below.mono (by assumption) (by first | (simp; done) | omega | (simp; omega)))))) (by first | omega | (simp; omega)))))))))
        refine wpQuiet_nil ?_
        intro w1 hb
        obtain ⟨hc, hf⟩ := bcell hb
        go_wp2_with fail
        go_ret
        exact ⟨rfl, (by with_reducible (repeat (first | assumption | exact Below.refl _ _ | refine Below.drew ?_ | refine below_drewN ?_ _ | refine Below.alloc ?_ (by first | (simp; done) | omega | (simp; omega)) _ | refine Below.setCell ?_ (by first | (simp; done) | omega | (simp; omega)) _ | refine Below.trans ?_ (Below.mono (by assumption) (by first | (simp; done) | omega | (simp; omega))))))⟩
      | some x =>
        obtain ⟨id, ref, sk, qty, amt⟩ := x
        rw [hr] at hG hR
        simp only [retGet] at hG hR
        go_enter Tryd.func7, Tryd.ntmps7
        go_wp2_with (first | (go_at_call 29; go_must ((with_reducible refine (hG _).mono ?_); rintro e w1 ⟨rfl, hb⟩; obtain ⟨hc, hf⟩ := bcell hb; have hz := hb.size; (try simp at hz); (try have hzT := Nat.lt_of_succ_le hz); have hzA : w.heap.size < w1.heap.size := (by omega); have hzA2 := Nat.le_of_lt hzA)) | (go_at_call 30; go_must ((with_reducible refine (hR _).mono ?_); rintro e w1 ⟨rfl, hb⟩; obtain ⟨hc, hf⟩ := bcell hb; have hz := hb.size; (try simp at hz); (try have hzT := Nat.lt_of_succ_le hz); have hzA : w.heap.size < w1.heap.size := (by omega); have hzA2 := Nat.le_of_lt hzA)))
        refine region_later (by kernel_rfl) (by kernel_rfl) ?_
        repeat (first | go_big_quiet_step ((first | (go_at_call 31; (with_reducible exact calls_later (by first | exact Nat.le_refl _ | (simp; done)) (hM _ (HL.out.deep hpos (by with_reducible (repeat (first | assumption | exact Below.refl _ _ | refine Below.drew ?_ | refine below_drewN ?_ _ | refine Below.alloc ?_ (by first | (simp; done) | omega | (simp; omega)) _ | refine Below.setCell ?_ (by first | (simp; done) | omega | (simp; omega)) _ | refine Below.trans ?_ (Below.mono (by assumption) (by first | (simp; done) | omega | (simp; omega)))))) (by first | omega | (simp; omega)))))) | (go_at_call 32; (with_reducible exact calls_later (by first | exact Nat.le_refl _ | (simp; done)) (hF _ (HL.out.deep hpos (by with_reducible (repeat (first | assumption | exact Below.refl _ _ | refine Below.drew ?_ | refine below_drewN ?_ _ | refine Below.alloc ?_ (by first | (simp; done) | omega | (simp; omega)) _ | refine Below.setCell ?_ (by first | (simp; done) | omega | (simp; omega)) _ | refine Below.trans ?_ (Below.mono (by assumption) (by first | (simp; done) | omega | (simp; omega)))))) (by first | omega | (simp; omega)))))) | (go_at_call 12; (with_reducible exact calls_later (by first | exact Nat.le_refl _ | (simp; done)) (O _ (HL.out.deep hpos (by with_reducible (repeat (first | assumption | exact Below.refl _ _ | refine Below.drew ?_ | refine below_drewN ?_ _ | refine Below.alloc ?_ (by first | (simp; done) | omega | (simp; omega)) _ | refine Below.setCell ?_ (by first | (simp; done) | omega | (simp; omega)) _ | refine Below.trans ?_ (Below.mono (by assumption) (by first | (simp; done) | omega | (simp; omega)))))) (by first | omega | (simp; omega)))))))) | quiet_step ((first | (go_at_call 31; (with_reducible exact calls_later (by first | exact Nat.le_refl _ | (simp; done)) (hM _ (HL.out.deep hpos (by with_reducible (repeat (first | assumption | exact Below.refl _ _ | refine Below.drew ?_ | refine below_drewN ?_ _ | refine Below.alloc ?_ (by first | (simp; done) | omega | (simp; omega)) _ | refine Below.setCell ?_ (by first | (simp; done) | omega | (simp; omega)) _ | refine Below.trans ?_ (Below.mono (by assumption) (by first | (simp; done) | omega | (simp; omega)))))) (by first | omega | (simp; omega)))))) | (go_at_call 32; (with_reducible exact calls_later (by first | exact Nat.le_refl _ | (simp; done)) (hF _ (HL.out.deep hpos (by with_reducible (repeat (first | assumption | exact Below.refl _ _ | refine Below.drew ?_ | refine below_drewN ?_ _ | refine Below.alloc ?_ (by first | (simp; done) | omega | (simp; omega)) _ | refine Below.setCell ?_ (by first | (simp; done) | omega | (simp; omega)) _ | refine Below.trans ?_ (Below.mono (by assumption) (by first | (simp; done) | omega | (simp; omega)))))) (by first | omega | (simp; omega)))))) | (go_at_call 12; (with_reducible exact calls_later (by first | exact Nat.le_refl _ | (simp; done)) (O _ (HL.out.deep hpos (by with_reducible (repeat (first | assumption | exact Below.refl _ _ | refine Below.drew ?_ | refine below_drewN ?_ _ | refine Below.alloc ?_ (by first | (simp; done) | omega | (simp; omega)) _ | refine Below.setCell ?_ (by first | (simp; done) | omega | (simp; omega)) _ | refine Below.trans ?_ (Below.mono (by assumption) (by first | (simp; done) | omega | (simp; omega)))))) (by first | omega | (simp; omega)))))))))
        refine wpQuiet_nil ?_
        intro w1 hb
        obtain ⟨hc, hf⟩ := bcell hb
        go_wp2_with fail
        go_ret
        exact ⟨rfl, (by with_reducible (repeat (first | assumption | exact Below.refl _ _ | refine Below.drew ?_ | refine below_drewN ?_ _ | refine Below.alloc ?_ (by first | (simp; done) | omega | (simp; omega)) _ | refine Below.setCell ?_ (by first | (simp; done) | omega | (simp; omega)) _ | refine Below.trans ?_ (Below.mono (by assumption) (by first | (simp; done) | omega | (simp; omega))))))⟩
end Go.Proofs.YtkgjcbkmdpndhaaDoor

/-
  The law OrdersTell returns true, by walking its text; conditions: texts no longer than memory bears, the table of parties as laid.
-/
import Derived.Test.YtkgjcbkmdpndhaaDoorOrdLaw
namespace Go.Proofs.YtkgjcbkmdpndhaaDoor
open Go.RowKit Go.Own

theorem great_any (id : Int) (ref sku : List UInt8) (qty amt : Int) (w : World) (h1 : ref.length ≤ maxLen) (h2 : sku.length ≤ maxLen) :
    Calls Tryd.prog 11 #[.agg #[.int .i64 id, .string ⟨ref.toArray⟩, .string ⟨sku.toArray⟩, .int .i64 qty, .int .i64 amt]] w fun e w' => e = .returned (.bool (decide (300 < ref.length) || decide (300 < sku.length))) ∧ Below w.heap.size w w' := by
  unfold maxLen at h1 h2
  go_enter Tryd.func11, Tryd.ntmps11
  go_wp2
  all_goals (go_ret; refine ⟨ret_bool ?_, (by with_reducible (repeat (first | exact Below.refl _ _ | assumption | refine Below.drew ?_ | refine below_drewN ?_ _ | refine Below.alloc ?_ (by first | (simp; done) | omega | (simp; omega)) _ | refine Below.setCell ?_ (by first | (simp; done) | omega | (simp; omega)) _)))⟩; rw [Bool.eq_iff_iff]; simp [] <;> first | omega | grind)

set_option maxHeartbeats 4000000 in
set_option maxRecDepth 100000 in
theorem tell_any (id : Int) (ref sku : List UInt8) (qty amt deed : Int) (w : World) (h1 : ref.length ≤ maxLen) (h2 : sku.length ≤ maxLen) (hL : Laid w) :
    Calls Tryd.prog 3 #[.agg #[.int .i64 id, .string ⟨ref.toArray⟩, .string ⟨sku.toArray⟩, .int .i64 qty, .int .i64 amt], .int .i64 deed] w fun e w' => e = .returned (.bool true) ∧ Below w.heap.size w w' := by
  have G := fun w => great_any id ref sku qty amt w h1 h2
  have O := ordered_any
  have M1 := fun d w h => msg_any id ref sku qty amt d w h1 h2 h
  have M2 := fun d w => refMsg_any id ref sku qty amt d w h1 h2
  simp only [MsgS.v] at M1 M2
  have P1 := fun w => putOrd_any id ref sku qty amt w h1 h2
  have P2 := fun w => refPutOrd_any id ref sku qty amt w h1 h2
  have C1 := fun w => ordCheck_any id ref sku qty amt w h1 h2
  have C2 := fun w => refOrdCheck_any id ref sku qty amt w h1 h2
  have HL := Lib.hid hL
  have hpos : 0 < w.heap.size := hL.1
  clear hL
  cases hg : (decide (300 < ref.length) || decide (300 < sku.length))
  · rw [hg] at G
    clear hg
    go_enter Tryd.func3, Tryd.ntmps3
    go_wp2_with (go_at_call 11; go_must ((with_reducible refine (G _).mono ?_); rintro e w1 ⟨rfl, hb⟩; obtain ⟨hc, hf⟩ := bcell hb; have hz := hb.size; (try simp at hz); (try have hzT := Nat.lt_of_succ_le hz); have hzA : w.heap.size < w1.heap.size := (by omega); have hzA2 := Nat.le_of_lt hzA))
    have hB0 : Below w.heap.size w w1 := (by with_reducible (repeat (first | assumption | exact Below.refl _ _ | refine Below.drew ?_ | refine below_drewN ?_ _ | refine Below.alloc ?_ (by first | (simp; done) | omega | (simp; omega)) _ | refine Below.setCell ?_ (by first | (simp; done) | omega | (simp; omega)) _ | refine Below.trans ?_ (Below.mono (by assumption) (by first | (simp; done) | omega | (simp; omega))))))
    go_loopw [5, 6] (fun k _ wr => ∃ j : Nat, j ≤ 9 ∧ k = .int .i64 ((j : Int) - 1) ∧ Below w1.heap.size w1 wr) (fun k _ _ => (9 - (intOf k + 1)).toNat)
    case atStart => exact ⟨0, by omega, by go_num, Below.refl _ _⟩
    case round =>
      obtain ⟨j, hj, rfl, hbr⟩ := hrel
      obtain ⟨hcr, hfr⟩ := bcell hbr
      have hzr := hbr.size
      have HLr := Lib.hid ((HL.out.below hB0 hpos).below hbr (by omega))
      have hposr : 0 < wr.heap.size := by omega
      have hzA' : w.heap.size < wr.heap.size := by omega
      by_cases hj9 : j = 9
      · subst hj9
        go_wp2_with fail
        refine region_later (by kernel_rfl) (by kernel_rfl) ?_
        repeat (first | go_big_quiet_step ((first | (go_at_call 15; (with_reducible exact calls_later (Nat.le_refl _) (C1 _))) | (go_at_call 16; (with_reducible exact calls_later (Nat.le_refl _) (C2 _))) | (go_at_call 17; (with_reducible exact calls_later (Nat.le_refl _) (P1 _))) | (go_at_call 18; (with_reducible exact calls_later (Nat.le_refl _) (P2 _))) | (go_at_call 12; (with_reducible exact calls_later (Nat.le_refl _) (O _ (by exact HLr.out.later hposr)))))) | quiet_step ((first | (go_at_call 15; (with_reducible exact calls_later (Nat.le_refl _) (C1 _))) | (go_at_call 16; (with_reducible exact calls_later (Nat.le_refl _) (C2 _))) | (go_at_call 17; (with_reducible exact calls_later (Nat.le_refl _) (P1 _))) | (go_at_call 18; (with_reducible exact calls_later (Nat.le_refl _) (P2 _))) | (go_at_call 12; (with_reducible exact calls_later (Nat.le_refl _) (O _ (by exact HLr.out.later hposr)))))))
        refine wpQuiet_nil ?_
        intro w1 hb
        obtain ⟨hc, hf⟩ := bcell hb
        have hz2 := hb.size
        go_wp2_with fail
        go_ret
        exact ⟨rfl, (by with_reducible (repeat (first | assumption | exact Below.refl _ _ | refine Below.drew ?_ | refine below_drewN ?_ _ | refine Below.alloc ?_ (by first | (simp; done) | omega | (simp; omega)) _ | refine Below.setCell ?_ (by first | (simp; done) | omega | (simp; omega)) _ | refine Below.trans ?_ (Below.mono (by assumption) (by first | (simp; done) | omega | (simp; omega))))))⟩
      · by_cases hj8 : j = 8
        · subst hj8
          go_wp2_with fail
          refine region_later (by kernel_rfl) (by kernel_rfl) ?_
          repeat (first | go_big_quiet_step ((first | (go_at_call 13; (with_reducible exact calls_later (Nat.le_refl _) (M1 _ _ (by exact HLr.out.later hposr)))) | (go_at_call 14; (with_reducible exact calls_later (Nat.le_refl _) (M2 _ _))))) | quiet_step ((first | (go_at_call 13; (with_reducible exact calls_later (Nat.le_refl _) (M1 _ _ (by exact HLr.out.later hposr)))) | (go_at_call 14; (with_reducible exact calls_later (Nat.le_refl _) (M2 _ _))))))
          refine wpQuiet_nil ?_
          intro w1 hb
          obtain ⟨hc, hf⟩ := bcell hb
          have hz2 := hb.size
          go_wp2_with fail
          go_roundw
          case rel => exact ⟨9, by omega, by go_num, hbr.trans (hb.mono hzr)⟩
          case measure => simp [intOf] <;> omega
        · go_wp2_with fail
          refine region_later (by kernel_rfl) (by kernel_rfl) ?_
          repeat (first | go_big_quiet_step ((first | (go_at_call 13; (with_reducible exact calls_later (Nat.le_refl _) (M1 _ _ (by exact HLr.out.later hposr)))) | (go_at_call 14; (with_reducible exact calls_later (Nat.le_refl _) (M2 _ _))))) | quiet_step ((first | (go_at_call 13; (with_reducible exact calls_later (Nat.le_refl _) (M1 _ _ (by exact HLr.out.later hposr)))) | (go_at_call 14; (with_reducible exact calls_later (Nat.le_refl _) (M2 _ _))))))
          refine wpQuiet_nil ?_
          intro w1 hb
          obtain ⟨hc, hf⟩ := bcell hb
          have hz2 := hb.size
          go_wp2_with fail
          go_roundw
          case rel => exact ⟨j + 1, by omega, by go_num, hbr.trans (hb.mono hzr)⟩
          case measure => simp [intOf] <;> omega
  · rw [hg] at G
    clear hg
    go_enter Tryd.func3, Tryd.ntmps3
    go_wp2_with (first | (go_at_call 11; go_must ((with_reducible refine (G _).mono ?_); rintro e w1 ⟨rfl, hb⟩; obtain ⟨hc, hf⟩ := bcell hb; have hz := hb.size; (try simp at hz); (try have hzT := Nat.lt_of_succ_le hz); have hzA : w.heap.size < w1.heap.size := (by omega); have hzA2 := Nat.le_of_lt hzA)) | (go_at_call 12; go_must ((with_reducible refine (O _ (by exact HL.out.below (by with_reducible (repeat (first | assumption | exact Below.refl _ _ | refine Below.drew ?_ | refine below_drewN ?_ _ | refine Below.alloc ?_ (by first | (simp; done) | omega | (simp; omega)) _ | refine Below.setCell ?_ (by first | (simp; done) | omega | (simp; omega)) _ | refine Below.trans ?_ (Below.mono (by assumption) (by first | (simp; done) | omega | (simp; omega)))))) hpos)).mono ?_); rintro e w1 ⟨rfl, hb⟩; obtain ⟨hc, hf⟩ := bcell hb; have hz := hb.size; (try simp at hz); (try have hzT := Nat.lt_of_succ_le hz); have hzA : w.heap.size < w1.heap.size := (by omega); have hzA2 := Nat.le_of_lt hzA)))
    go_ret
    exact ⟨rfl, (by with_reducible (repeat (first | assumption | exact Below.refl _ _ | refine Below.drew ?_ | refine below_drewN ?_ _ | refine Below.alloc ?_ (by first | (simp; done) | omega | (simp; omega)) _ | refine Below.setCell ?_ (by first | (simp; done) | omega | (simp; omega)) _ | refine Below.trans ?_ (Below.mono (by assumption) (by first | (simp; done) | omega | (simp; omega))))))⟩
end Go.Proofs.YtkgjcbkmdpndhaaDoor

/-
  The law OrdersBack returns true, by walking its text; conditions: texts no longer than memory bears, the table of parties as laid.
-/
import Derived.Test.YtkgjcbkmdpndhaaDoorOrdRef
import Derived.Test.YtkgjcbkmdpndhaaDoorOrdTell
import Derived.Test.YtkgjcbkmdpndhaaDoorMay
import Derived.Test.YtkgjcbkmdpndhaaDoorDeep
namespace Go.Proofs.YtkgjcbkmdpndhaaDoor
open Go.RowKit Go.Own

theorem msgOf_bad {id qty amt d : Int} {ref sku : List UInt8} (h : ordCheck id ref sku qty amt ≠ 0) : msgOf id ref sku qty amt d = ⟨0, 0, 0, [], 0, 0, 0⟩ := by rw [msgOf, if_pos (.inr h)]
theorem msgOf_may {id qty amt : Int} {ref sku : List UInt8} (h : ordCheck id ref sku qty amt = 0) (j : Nat) (hj : j < 6) :
    ∃ to sk q a, msgOf id ref sku qty amt j = ⟨to, id, j, sk, q, a, 0⟩ ∧ sk.length ≤ 8 ∧ mayMsg ⟨to, id, j, sk, q, a, 0⟩ = true := by
  obtain ⟨a1, a2, a3, a4, a5, a6, a7, a8, a9, a10, a11, a12⟩ := ordCheck_ok h
  have hd : ¬ partyOf j < 0 := by
    have : j = 0 ∨ j = 1 ∨ j = 2 ∨ j = 3 ∨ j = 4 ∨ j = 5 := by omega
    rcases this with rfl | rfl | rfl | rfl | rfl | rfl <;> decide
  have hk : keyOk id j = true := by simp [keyOk, isDeed]; omega
  by_cases hp : partyOf j = 0
  · refine ⟨0, [], 0, amt, by rw [msgOf, if_neg (by simp [h]; omega), if_pos hp], by simp, ?_⟩
    simp [mayMsg, hk, hp]; omega
  · refine ⟨partyOf j, sku, qty, 0, by rw [msgOf, if_neg (by simp [h]; omega), if_neg hp], a10, ?_⟩
    have e : sku.isEmpty = false := by cases sku <;> simp_all
    simp [mayMsg, hk, hp, e, a12]; omega
theorem tmod_lt {c n : Int} (h0 : 0 ≤ c) (hn : 0 < n) : 0 ≤ c.tmod n ∧ c.tmod n < n := by
  rw [Int.tmod_eq_emod_of_nonneg h0]
  exact ⟨Int.emod_nonneg _ (by omega), Int.emod_lt_of_pos _ hn⟩

set_option maxHeartbeats 8000000 in
set_option maxRecDepth 100000 in
theorem back_any (id : Int) (ref sku : List UInt8) (qty amt : Int) (bh : List UInt8) (cut : Int) (w : World) (h1 : ref.length ≤ maxLen) (h2 : sku.length ≤ maxLen) (h3 : bh.length ≤ maxLen) (hcut : 0 ≤ cut) (hcut2 : cut ≤ 255) (hL : Laid w) :
    Calls Tryd.prog 8 #[.agg #[.int .i64 id, .string ⟨ref.toArray⟩, .string ⟨sku.toArray⟩, .int .i64 qty, .int .i64 amt], .string ⟨bh.toArray⟩, .int .u8 cut] w fun e w' => e = .returned (.bool true) ∧ Below w.heap.size w w' := by
  have G := fun w => great_any id ref sku qty amt w h1 h2
  have O := ordered_any
  have M := fun d w h => msg_any id ref sku qty amt d w h1 h2 h
  have P := fun w => putOrd_any id ref sku qty amt w h1 h2
  have C := fun w => ordCheck_any id ref sku qty amt w h1 h2
  have HL := Lib.hid hL
  have hpos : 0 < w.heap.size := hL.1
  clear hL
  unfold maxLen at h3
  cases hg : (decide (300 < ref.length) || decide (300 < sku.length))
  rotate_left
  · rw [hg] at G
    clear hg
    go_enter Tryd.func8, Tryd.ntmps8
    go_wp2_with (first | (go_at_call 11; go_must ((with_reducible refine (G _).mono ?_); rintro e w1 ⟨rfl, hb⟩; obtain ⟨hc, hf⟩ := bcell hb; have hz := hb.size; (try simp at hz); (try have hzT := Nat.lt_of_succ_le hz); have hzA : w.heap.size < w1.heap.size := (by omega); have hzA2 := Nat.le_of_lt hzA)) | (go_at_call 12; go_must ((with_reducible refine (O _ (by exact HL.out.below (by with_reducible (repeat (first | assumption | exact Below.refl _ _ | refine Below.drew ?_ | refine below_drewN ?_ _ | refine Below.alloc ?_ (by first | (simp; done) | omega | (simp; omega)) _ | refine Below.setCell ?_ (by first | (simp; done) | omega | (simp; omega)) _ | refine Below.trans ?_ (Below.mono (by assumption) (by first | (simp; done) | omega | (simp; omega)))))) hpos)).mono ?_); rintro e w1 ⟨rfl, hb⟩; obtain ⟨hc, hf⟩ := bcell hb; have hz := hb.size; (try simp at hz); (try have hzT := Nat.lt_of_succ_le hz); have hzA : w.heap.size < w1.heap.size := (by omega); have hzA2 := Nat.le_of_lt hzA)))
    go_ret
    exact ⟨rfl, (by with_reducible (repeat (first | assumption | exact Below.refl _ _ | refine Below.drew ?_ | refine below_drewN ?_ _ | refine Below.alloc ?_ (by first | (simp; done) | omega | (simp; omega)) _ | refine Below.setCell ?_ (by first | (simp; done) | omega | (simp; omega)) _ | refine Below.trans ?_ (Below.mono (by assumption) (by first | (simp; done) | omega | (simp; omega))))))⟩
  · rw [hg] at G
    clear hg
    by_cases hb50 : 50 < bh.length
    · have h50 : (50 : Int) < (bh.length : Int) := by omega
      go_enter Tryd.func8, Tryd.ntmps8
      go_wp2_with (first | (go_at_call 11; go_must ((with_reducible refine (G _).mono ?_); rintro e w1 ⟨rfl, hb⟩; obtain ⟨hc, hf⟩ := bcell hb; have hz := hb.size; (try simp at hz); (try have hzT := Nat.lt_of_succ_le hz); have hzA : w.heap.size < w1.heap.size := (by omega); have hzA2 := Nat.le_of_lt hzA)) | (go_at_call 12; go_must ((with_reducible refine (O _ (by exact HL.out.below (by with_reducible (repeat (first | assumption | exact Below.refl _ _ | refine Below.drew ?_ | refine below_drewN ?_ _ | refine Below.alloc ?_ (by first | (simp; done) | omega | (simp; omega)) _ | refine Below.setCell ?_ (by first | (simp; done) | omega | (simp; omega)) _ | refine Below.trans ?_ (Below.mono (by assumption) (by first | (simp; done) | omega | (simp; omega)))))) hpos)).mono ?_); rintro e w1 ⟨rfl, hb⟩; obtain ⟨hc, hf⟩ := bcell hb; have hz := hb.size; (try simp at hz); (try have hzT := Nat.lt_of_succ_le hz); have hzA : w.heap.size < w1.heap.size := (by omega); have hzA2 := Nat.le_of_lt hzA)))
      go_ret
      exact ⟨rfl, (by with_reducible (repeat (first | assumption | exact Below.refl _ _ | refine Below.drew ?_ | refine below_drewN ?_ _ | refine Below.alloc ?_ (by first | (simp; done) | omega | (simp; omega)) _ | refine Below.setCell ?_ (by first | (simp; done) | omega | (simp; omega)) _ | refine Below.trans ?_ (Below.mono (by assumption) (by first | (simp; done) | omega | (simp; omega))))))⟩
    · have h50 : (bh.length : Int) ≤ (50 : Int) := by omega
      by_cases hc : ordCheck id ref sku qty amt = 0
      rotate_left
      · have hc0 : (ordCheck id ref sku qty amt == 0) = false := by simpa using hc
        have hc1 : (ordCheck id ref sku qty amt != 0) = true := by simpa using hc
        have M1 := fun w h => M 1 w h
        rw [msgOf_bad hc] at M1
        simp only [MsgS.v] at M1
        rw [putOrd, if_neg hc] at P
        clear M hc
        go_enter Tryd.func8, Tryd.ntmps8
        go_wp2_with (first | (go_at_call 11; go_must ((with_reducible refine (G _).mono ?_); rintro e w1 ⟨rfl, hb⟩; obtain ⟨hc, hf⟩ := bcell hb; have hz := hb.size; (try simp at hz); (try have hzT := Nat.lt_of_succ_le hz); have hzA : w.heap.size < w1.heap.size := (by omega); have hzA2 := Nat.le_of_lt hzA)) | (go_at_call 15; go_must ((with_reducible refine (C _).mono ?_); rintro e w1 ⟨rfl, hb⟩; obtain ⟨hc, hf⟩ := bcell hb; have hz := hb.size; (try simp at hz); (try have hzT := Nat.lt_of_succ_le hz); have hzA : w.heap.size < w1.heap.size := (by omega); have hzA2 := Nat.le_of_lt hzA)) | (go_at_call 17; go_must ((with_reducible refine (P _).mono ?_); rintro e w1 ⟨rfl, hb⟩; obtain ⟨hc, hf⟩ := bcell hb; have hz := hb.size; (try simp at hz); (try have hzT := Nat.lt_of_succ_le hz); have hzA : w.heap.size < w1.heap.size := (by omega); have hzA2 := Nat.le_of_lt hzA)) | (go_at_call 13; go_must ((with_reducible refine (M1 _ (by exact HL.out.below (by with_reducible (repeat (first | assumption | exact Below.refl _ _ | refine Below.drew ?_ | refine below_drewN ?_ _ | refine Below.alloc ?_ (by first | (simp; done) | omega | (simp; omega)) _ | refine Below.setCell ?_ (by first | (simp; done) | omega | (simp; omega)) _ | refine Below.trans ?_ (Below.mono (by assumption) (by first | (simp; done) | omega | (simp; omega)))))) hpos)).mono ?_); rintro e w1 ⟨rfl, hb⟩; obtain ⟨hc, hf⟩ := bcell hb; have hz := hb.size; (try simp at hz); (try have hzT := Nat.lt_of_succ_le hz); have hzA : w.heap.size < w1.heap.size := (by omega); have hzA2 := Nat.le_of_lt hzA)) | (go_at_call 12; go_must ((with_reducible refine (O _ (by exact HL.out.below (by with_reducible (repeat (first | assumption | exact Below.refl _ _ | refine Below.drew ?_ | refine below_drewN ?_ _ | refine Below.alloc ?_ (by first | (simp; done) | omega | (simp; omega)) _ | refine Below.setCell ?_ (by first | (simp; done) | omega | (simp; omega)) _ | refine Below.trans ?_ (Below.mono (by assumption) (by first | (simp; done) | omega | (simp; omega)))))) hpos)).mono ?_); rintro e w1 ⟨rfl, hb⟩; obtain ⟨hc, hf⟩ := bcell hb; have hz := hb.size; (try simp at hz); (try have hzT := Nat.lt_of_succ_le hz); have hzA : w.heap.size < w1.heap.size := (by omega); have hzA2 := Nat.le_of_lt hzA)))
        go_ret
        exact ⟨rfl, (by with_reducible (repeat (first | assumption | exact Below.refl _ _ | refine Below.drew ?_ | refine below_drewN ?_ _ | refine Below.alloc ?_ (by first | (simp; done) | omega | (simp; omega)) _ | refine Below.setCell ?_ (by first | (simp; done) | omega | (simp; omega)) _ | refine Below.trans ?_ (Below.mono (by assumption) (by first | (simp; done) | omega | (simp; omega))))))⟩
      · have HC := Lib.hid hc
        rw [hc] at C
        obtain ⟨a1, a2, a3, a4, a5, a6, a7, a8, a9, a10, _, _⟩ := ordCheck_ok hc
        have g1 := getOrd_put hc
        have hlen : 0 < (putOrd id ref sku qty amt).length ∧ (putOrd id ref sku qty amt).length ≤ 200 := by
          rw [putOrd, if_pos hc]
          have := varF_len 10 id.toNat
          have := varF_len 10 qty.toNat
          have := varF_len 10 amt.toNat
          have := textB_len a9
          have := textB_len a10
          have h0 : 0 < sku.length := List.length_pos_iff.2 a8
          have : 0 < (textB sku).length := by unfold textB; simp; omega
          simp only [List.length_append]
          omega
        have hk := tmod_lt (n := (putOrd id ref sku qty amt).length) hcut (by omega)
        generalize hk0 : cut.tmod ((putOrd id ref sku qty amt).length : Int) = k at hk
        obtain ⟨hk1, hk2⟩ := hk
        have hk3 : k.toNat < (putOrd id ref sku qty amt).length := by omega
        have g2 := getOrd_cut hc hk3
        have g3 := fun hb => getOrd_behind (b := bh) hc hb
        generalize putOrd id ref sku qty amt = s at *
        have hlen1 : ((s.length : Int) == 0) = false := by rw [beq_eq_false_iff_ne]; omega
        have hlen2 : (s.length : Int) ≠ 0 := by omega
        have hml : maxLen = 9223372036854775807 := rfl
        have hs1 : s.length + bh.length ≤ 9223372036854775807 := by omega
        have G1 := fun w => get_any s w (by omega)
        have G2 := fun w => get_any (s.take k.toNat) w (by simp; omega)
        have G3 := fun w => get_any (s ++ bh) w (by simp; omega)
        rw [g1] at G1
        rw [g2] at G2
        simp only [retGet] at G1 G2
        have ei : ((id.toNat : Nat) : Int) = id := by omega
        have eq1 : ((qty.toNat : Nat) : Int) = qty := by omega
        have ea : ((amt.toNat : Nat) : Int) = amt := by omega
        rw [ei, eq1, ea] at G1
        have hkn : k.toNat ≤ s.length := by omega
        by_cases hbh : bh = []
        · subst hbh
          rw [List.append_nil, g1] at G3
          simp only [retGet] at G3
          rw [ei, eq1, ea] at G3
          clear g1 g2 g3 ei eq1 ea hc
          go_enter Tryd.func8, Tryd.ntmps8
          go_wp2_with (first | (go_at_call 11; go_must ((with_reducible refine (G _).mono ?_); rintro e w1 ⟨rfl, hb⟩; obtain ⟨hc, hf⟩ := bcell hb; have hz := hb.size; (try simp at hz); (try have hzT := Nat.lt_of_succ_le hz); have hzA : w.heap.size < w1.heap.size := (by omega); have hzA2 := Nat.le_of_lt hzA)) | (go_at_call 15; go_must ((with_reducible refine (C _).mono ?_); rintro e w1 ⟨rfl, hb⟩; obtain ⟨hc, hf⟩ := bcell hb; have hz := hb.size; (try simp at hz); (try have hzT := Nat.lt_of_succ_le hz); have hzA : w.heap.size < w1.heap.size := (by omega); have hzA2 := Nat.le_of_lt hzA)) | (go_at_call 17; go_must ((with_reducible refine (P _).mono ?_); rintro e w1 ⟨rfl, hb⟩; obtain ⟨hc, hf⟩ := bcell hb; have hz := hb.size; (try simp at hz); (try have hzT := Nat.lt_of_succ_le hz); have hzA : w.heap.size < w1.heap.size := (by omega); have hzA2 := Nat.le_of_lt hzA)))
          have hzL : w.heap.size < w1.heap.size := by omega
          have hB0 : Below w.heap.size w w1 := (by with_reducible (repeat (first | assumption | exact Below.refl _ _ | refine Below.drew ?_ | refine below_drewN ?_ _ | refine Below.alloc ?_ (by first | (simp; done) | omega | (simp; omega)) _ | refine Below.setCell ?_ (by first | (simp; done) | omega | (simp; omega)) _ | refine Below.trans ?_ (Below.mono (by assumption) (by first | (simp; done) | omega | (simp; omega))))))
          go_loopw [8, 9] (fun d _ wr => ∃ j : Nat, j ≤ 6 ∧ d = .int .i64 (j : Int) ∧ Below w1.heap.size w1 wr) (fun d _ _ => (6 - intOf d).toNat)
          case atStart => exact ⟨0, by omega, rfl, Below.refl _ _⟩
          case round =>
            obtain ⟨j, hj, rfl, hbr⟩ := hrel
            obtain ⟨hcr, hfr⟩ := bcell hbr
            have hzr := hbr.size
            have HLr := Lib.hid ((HL.out.below hB0 hpos).below hbr (by omega))
            have hposr : 0 < wr.heap.size := by omega
            have hzA' : w.heap.size < wr.heap.size := by omega
            by_cases hj6 : j = 6
            · subst hj6
              go_wp2_with fail
              with_reducible refine (G1 _).mono ?_
              rintro e wA ⟨rfl, hbA⟩
              obtain ⟨hcA, hfA⟩ := bcell hbA
              have zA0 := hbA.size
              have zA1 : w.heap.size < wA.heap.size := by omega
              have zA2 := Nat.le_of_lt zA1
              go_wp2_with fail
              with_reducible refine (G2 _).mono ?_
              rintro e wB ⟨rfl, hbB⟩
              obtain ⟨hcB, hfB⟩ := bcell hbB
              have zB0 : wA.heap.size + 1 ≤ wB.heap.size := (by have := hbB.size; simpa using this)
              have zB1 : w.heap.size < wB.heap.size := by omega
              have zB2 := Nat.le_of_lt zB1
              have zB3 : wA.heap.size < wB.heap.size := by omega
              have zB4 := Nat.le_of_lt zB3
              go_wp2_with fail
              with_reducible refine (G3 _).mono ?_
              rintro e wC ⟨rfl, hbC⟩
              obtain ⟨hcC, hfC⟩ := bcell hbC
              have zC0 : wB.heap.size + 1 ≤ wC.heap.size := (by have := hbC.size; simpa using this)
              have zC1 : w.heap.size < wC.heap.size := by omega
              have zC2 := Nat.le_of_lt zC1
              have zC3 : wA.heap.size < wC.heap.size := by omega
              have zC4 := Nat.le_of_lt zC3
              have zC5 : wB.heap.size < wC.heap.size := by omega
              have zC6 := Nat.le_of_lt zC5
              go_wp2_with (go_at_call 12; go_must ((with_reducible refine (O _ (by exact HL.out.below (by with_reducible (repeat (first | assumption | exact Below.refl _ _ | refine Below.drew ?_ | refine below_drewN ?_ _ | refine Below.alloc ?_ (by first | (simp; done) | omega | (simp; omega)) _ | refine Below.setCell ?_ (by first | (simp; done) | omega | (simp; omega)) _ | refine Below.trans ?_ (Below.mono (by assumption) (by first | (simp; done) | omega | (simp; omega)))))) hpos)).mono ?_); rintro e w1 ⟨rfl, hb⟩; obtain ⟨hc, hf⟩ := bcell hb; have hz := hb.size; (try simp at hz); (try have hzT := Nat.lt_of_succ_le hz)))
              go_ret
              exact ⟨rfl, (by with_reducible (repeat (first | assumption | exact Below.refl _ _ | refine Below.drew ?_ | refine below_drewN ?_ _ | refine Below.alloc ?_ (by first | (simp; done) | omega | (simp; omega)) _ | refine Below.setCell ?_ (by first | (simp; done) | omega | (simp; omega)) _ | refine Below.trans ?_ (Below.mono (by assumption) (by first | (simp; done) | omega | (simp; omega))))))⟩
            · obtain ⟨to, sk, q, a, m1, m2, m3⟩ := msgOf_may HC.out j (by omega)
              have hj5 : (j : Int) < 6 := by omega
              have Mj := fun w h => M j w h
              have Yj := fun w h => may_any ⟨to, id, j, sk, q, a, 0⟩ w (by simp; omega) h
              rw [m1] at Mj
              rw [m3] at Yj
              simp only [MsgS.v] at Mj Yj
              go_wp2_with (first | (go_at_call 13; go_must ((with_reducible refine (Mj _ HLr.out).mono ?_); rintro e w1 ⟨rfl, hb⟩; obtain ⟨hc, hf⟩ := bcell hb; have hz := hb.size; (try simp at hz); (try have hzT := Nat.lt_of_succ_le hz); have hzA : w.heap.size < w1.heap.size := (by omega); have hzA2 := Nat.le_of_lt hzA)) | (go_at_call 31; go_must ((with_reducible refine (Yj _ (by exact HL.out.below (by with_reducible (repeat (first | assumption | exact Below.refl _ _ | refine Below.drew ?_ | refine below_drewN ?_ _ | refine Below.alloc ?_ (by first | (simp; done) | omega | (simp; omega)) _ | refine Below.setCell ?_ (by first | (simp; done) | omega | (simp; omega)) _ | refine Below.trans ?_ (Below.mono (by assumption) (by first | (simp; done) | omega | (simp; omega)))))) hpos)).mono ?_); rintro e w1 ⟨rfl, hb⟩; obtain ⟨hc, hf⟩ := bcell hb; have hz := hb.size; (try simp at hz); (try have hzT := Nat.lt_of_succ_le hz); have hzA : w.heap.size < w1.heap.size := (by omega); have hzA2 := Nat.le_of_lt hzA; have hzT2 := Nat.le_of_lt hzT)))
              go_roundw
              case rel => exact ⟨j + 1, by omega, by go_num, (by with_reducible (repeat (first | assumption | exact Below.refl _ _ | refine Below.drew ?_ | refine below_drewN ?_ _ | refine Below.alloc ?_ (by first | (simp; done) | omega | (simp; omega)) _ | refine Below.setCell ?_ (by first | (simp; done) | omega | (simp; omega)) _ | refine Below.trans ?_ (Below.mono (by assumption) (by first | (simp; done) | omega | (simp; omega))))))⟩
              case measure => simp [intOf] <;> omega
        · have hbe : bh.isEmpty = false := by cases bh <;> simp_all
          have hbq : (bh == []) = false := by cases bh <;> simp_all
          rw [g3 hbh] at G3
          simp only [retGet] at G3
          have hid1 : (0 == id) = false := by rw [beq_eq_false_iff_ne]; omega
          have hid2 : ¬ (0 = id) := by omega
          clear g1 g2 g3 ei eq1 ea hc
          go_enter Tryd.func8, Tryd.ntmps8
          go_wp2_with (first | (go_at_call 11; go_must ((with_reducible refine (G _).mono ?_); rintro e w1 ⟨rfl, hb⟩; obtain ⟨hc, hf⟩ := bcell hb; have hz := hb.size; (try simp at hz); (try have hzT := Nat.lt_of_succ_le hz); have hzA : w.heap.size < w1.heap.size := (by omega); have hzA2 := Nat.le_of_lt hzA)) | (go_at_call 15; go_must ((with_reducible refine (C _).mono ?_); rintro e w1 ⟨rfl, hb⟩; obtain ⟨hc, hf⟩ := bcell hb; have hz := hb.size; (try simp at hz); (try have hzT := Nat.lt_of_succ_le hz); have hzA : w.heap.size < w1.heap.size := (by omega); have hzA2 := Nat.le_of_lt hzA)) | (go_at_call 17; go_must ((with_reducible refine (P _).mono ?_); rintro e w1 ⟨rfl, hb⟩; obtain ⟨hc, hf⟩ := bcell hb; have hz := hb.size; (try simp at hz); (try have hzT := Nat.lt_of_succ_le hz); have hzA : w.heap.size < w1.heap.size := (by omega); have hzA2 := Nat.le_of_lt hzA)))
          have hzL : w.heap.size < w1.heap.size := by omega
          have hB0 : Below w.heap.size w w1 := (by with_reducible (repeat (first | assumption | exact Below.refl _ _ | refine Below.drew ?_ | refine below_drewN ?_ _ | refine Below.alloc ?_ (by first | (simp; done) | omega | (simp; omega)) _ | refine Below.setCell ?_ (by first | (simp; done) | omega | (simp; omega)) _ | refine Below.trans ?_ (Below.mono (by assumption) (by first | (simp; done) | omega | (simp; omega))))))
          go_loopw [8, 9] (fun d _ wr => ∃ j : Nat, j ≤ 6 ∧ d = .int .i64 (j : Int) ∧ Below w1.heap.size w1 wr) (fun d _ _ => (6 - intOf d).toNat)
          case atStart => exact ⟨0, by omega, rfl, Below.refl _ _⟩
          case round =>
            obtain ⟨j, hj, rfl, hbr⟩ := hrel
            obtain ⟨hcr, hfr⟩ := bcell hbr
            have hzr := hbr.size
            have HLr := Lib.hid ((HL.out.below hB0 hpos).below hbr (by omega))
            have hposr : 0 < wr.heap.size := by omega
            have hzA' : w.heap.size < wr.heap.size := by omega
            by_cases hj6 : j = 6
            · subst hj6
              go_wp2_with fail
              with_reducible refine (G1 _).mono ?_
              rintro e wA ⟨rfl, hbA⟩
              obtain ⟨hcA, hfA⟩ := bcell hbA
              have zA0 := hbA.size
              have zA1 : w.heap.size < wA.heap.size := by omega
              have zA2 := Nat.le_of_lt zA1
              go_wp2_with fail
              with_reducible refine (G2 _).mono ?_
              rintro e wB ⟨rfl, hbB⟩
              obtain ⟨hcB, hfB⟩ := bcell hbB
              have zB0 : wA.heap.size + 1 ≤ wB.heap.size := (by have := hbB.size; simpa using this)
              have zB1 : w.heap.size < wB.heap.size := by omega
              have zB2 := Nat.le_of_lt zB1
              have zB3 : wA.heap.size < wB.heap.size := by omega
              have zB4 := Nat.le_of_lt zB3
              go_wp2_with fail
              with_reducible refine (G3 _).mono ?_
              rintro e wC ⟨rfl, hbC⟩
              obtain ⟨hcC, hfC⟩ := bcell hbC
              have zC0 : wB.heap.size + 1 ≤ wC.heap.size := (by have := hbC.size; simpa using this)
              have zC1 : w.heap.size < wC.heap.size := by omega
              have zC2 := Nat.le_of_lt zC1
              have zC3 : wA.heap.size < wC.heap.size := by omega
              have zC4 := Nat.le_of_lt zC3
              have zC5 : wB.heap.size < wC.heap.size := by omega
              have zC6 := Nat.le_of_lt zC5
              go_wp2_with (go_at_call 12; go_must ((with_reducible refine (O _ (by exact HL.out.below (by with_reducible (repeat (first | assumption | exact Below.refl _ _ | refine Below.drew ?_ | refine below_drewN ?_ _ | refine Below.alloc ?_ (by first | (simp; done) | omega | (simp; omega)) _ | refine Below.setCell ?_ (by first | (simp; done) | omega | (simp; omega)) _ | refine Below.trans ?_ (Below.mono (by assumption) (by first | (simp; done) | omega | (simp; omega)))))) hpos)).mono ?_); rintro e w1 ⟨rfl, hb⟩; obtain ⟨hc, hf⟩ := bcell hb; have hz := hb.size; (try simp at hz); (try have hzT := Nat.lt_of_succ_le hz)))
              go_ret
              exact ⟨rfl, (by with_reducible (repeat (first | assumption | exact Below.refl _ _ | refine Below.drew ?_ | refine below_drewN ?_ _ | refine Below.alloc ?_ (by first | (simp; done) | omega | (simp; omega)) _ | refine Below.setCell ?_ (by first | (simp; done) | omega | (simp; omega)) _ | refine Below.trans ?_ (Below.mono (by assumption) (by first | (simp; done) | omega | (simp; omega))))))⟩
            · obtain ⟨to, sk, q, a, m1, m2, m3⟩ := msgOf_may HC.out j (by omega)
              have hj5 : (j : Int) < 6 := by omega
              have Mj := fun w h => M j w h
              have Yj := fun w h => may_any ⟨to, id, j, sk, q, a, 0⟩ w (by simp; omega) h
              rw [m1] at Mj
              rw [m3] at Yj
              simp only [MsgS.v] at Mj Yj
              go_wp2_with (first | (go_at_call 13; go_must ((with_reducible refine (Mj _ HLr.out).mono ?_); rintro e w1 ⟨rfl, hb⟩; obtain ⟨hc, hf⟩ := bcell hb; have hz := hb.size; (try simp at hz); (try have hzT := Nat.lt_of_succ_le hz); have hzA : w.heap.size < w1.heap.size := (by omega); have hzA2 := Nat.le_of_lt hzA)) | (go_at_call 31; go_must ((with_reducible refine (Yj _ (by exact HL.out.below (by with_reducible (repeat (first | assumption | exact Below.refl _ _ | refine Below.drew ?_ | refine below_drewN ?_ _ | refine Below.alloc ?_ (by first | (simp; done) | omega | (simp; omega)) _ | refine Below.setCell ?_ (by first | (simp; done) | omega | (simp; omega)) _ | refine Below.trans ?_ (Below.mono (by assumption) (by first | (simp; done) | omega | (simp; omega)))))) hpos)).mono ?_); rintro e w1 ⟨rfl, hb⟩; obtain ⟨hc, hf⟩ := bcell hb; have hz := hb.size; (try simp at hz); (try have hzT := Nat.lt_of_succ_le hz); have hzA : w.heap.size < w1.heap.size := (by omega); have hzA2 := Nat.le_of_lt hzA; have hzT2 := Nat.le_of_lt hzT)))
              go_roundw
              case rel => exact ⟨j + 1, by omega, by go_num, (by with_reducible (repeat (first | assumption | exact Below.refl _ _ | refine Below.drew ?_ | refine below_drewN ?_ _ | refine Below.alloc ?_ (by first | (simp; done) | omega | (simp; omega)) _ | refine Below.setCell ?_ (by first | (simp; done) | omega | (simp; omega)) _ | refine Below.trans ?_ (Below.mono (by assumption) (by first | (simp; done) | omega | (simp; omega))))))⟩
              case measure => simp [intOf] <;> omega
end Go.Proofs.YtkgjcbkmdpndhaaDoor

/-
  What a saga becomes when it goes on, by walking both texts; conditions: none. (Printed by wip/mkon.py.)
-/
import Derived.Test.YtlfphfklcifgpaaDoorSagaB
import Derived.Test.YtlfphfklcifgpaaDoorMem
namespace Go.Proofs.YtlfphfklcifgpaaDoor
open Go.RowKit Go.Own

set_option maxHeartbeats 8000000 in
set_option maxRecDepth 100000 in
theorem on_any (o : OrdS) (s : D6) (w : World) : Calls Tryd.prog 78 #[sagaV o s] w fun e w' => e = .returned (sagaV o (onOf s)) ∧ Below w.heap.size w w' := by
  have B := fun w => back_any o s w
  obtain ⟨a, b, c, d, e, f, x⟩ := s
  cases hk : backOf ⟨a, b, c, d, e, f, x⟩
  · rw [(show sagaV o ⟨a, b, c, d, e, f, x⟩ = .agg #[.int .i64 o.id, .string ⟨o.ref.toArray⟩, .string ⟨o.sku.toArray⟩, .int .i64 o.qty, .int .i64 o.amt, .int .i64 a, .int .i64 b, .int .i64 c, .int .i64 d, .int .i64 e, .int .i64 f, .bool x] from rfl), hk] at B
    rw [(show sagaV o ⟨a, b, c, d, e, f, x⟩ = .agg #[.int .i64 o.id, .string ⟨o.ref.toArray⟩, .string ⟨o.sku.toArray⟩, .int .i64 o.qty, .int .i64 o.amt, .int .i64 a, .int .i64 b, .int .i64 c, .int .i64 d, .int .i64 e, .int .i64 f, .bool x] from rfl)]
    by_cases ha : a = 0
    · have HQ := Lib.hid (show onOf ⟨a, b, c, d, e, f, x⟩ = ⟨1, b, c, d, e, f, x⟩ from (onOf_fwd hk).trans (by simp [ha]))
      have hab : (a == 0) = true := by simpa using ha
      clear hk ha
      go_enter Tryd.func78, Tryd.ntmps78
      go_wp2_with (go_at_call 58; go_must ((with_reducible refine (B _).mono ?_); rintro e w1 ⟨rfl, hb⟩; obtain ⟨hc, hf⟩ := bcell hb; have hz := hb.size; (try simp at hz); (try have hzT := Nat.lt_of_succ_le hz); have hzA : w.heap.size < w1.heap.size := (by omega); have hzB : w.heap.size + 1 < w1.heap.size := (by omega); have hzA2 := Nat.le_of_lt hzA; have hzB2 := Nat.le_of_lt hzB))
      obtain ⟨L1, L2, f1, f2⟩ := after2 hb; have k0 := L1 0 _ rfl; have k1 := L1 1 _ rfl; have k2 := L1 2 _ rfl; have k3 := L1 3 _ rfl; have k4 := L1 4 _ rfl; have k5 := L1 5 _ rfl; have k6 := L1 6 _ rfl; have k7 := L1 7 _ rfl; have k8 := L1 8 _ rfl; have k9 := L1 9 _ rfl; have k10 := L1 10 _ rfl; have k11 := L1 11 _ rfl; have m0 := L2 0 _ rfl; have m1 := L2 1 _ rfl; have m2 := L2 2 _ rfl; have m3 := L2 3 _ rfl; have m4 := L2 4 _ rfl; have m5 := L2 5 _ rfl; have m6 := L2 6 _ rfl; have m7 := L2 7 _ rfl; have m8 := L2 8 _ rfl; have m9 := L2 9 _ rfl; have m10 := L2 10 _ rfl; have m11 := L2 11 _ rfl; clear L1 L2 hc hf
      refine wp_loop_rounds 4 ?_
      rw [rounds_succ]
      go_wp2_with fail
      all_goals (try (rw [rounds_succ]; go_wp2_with fail))
      all_goals (try (rw [rounds_succ]; go_wp2_with fail))
      all_goals (try (rw [rounds_succ]; go_wp2_with fail))
      refine bodyPost_ret (v := sagaV o ⟨1, b, c, d, e, f, x⟩) (by unfold sagaV; simp [results, Tryd.results78, go_sem, *]) rfl ⟨by rw [HQ.out], (by with_reducible (repeat (first | assumption | exact Below.refl _ _ | refine Below.drew ?_ | refine below_drewN ?_ _ | refine Below.alloc ?_ (by first | (simp; done) | omega | (simp; omega)) _ | refine Below.setCell ?_ (by first | (simp; done) | omega | (simp; omega)) _ | refine Below.trans ?_ (Below.mono (by assumption) (by first | (simp; done) | omega | (simp; omega))))))⟩
    · have hab : (a == 0) = false := by simpa using ha
      by_cases hb : b = 0
      · have HQ := Lib.hid (show onOf ⟨a, b, c, d, e, f, x⟩ = ⟨a, 1, c, d, e, f, x⟩ from (onOf_fwd hk).trans (by simp [ha, hb]))
        have hbb : (b == 0) = true := by simpa using hb
        clear hk hb ha
        go_enter Tryd.func78, Tryd.ntmps78
        go_wp2_with (go_at_call 58; go_must ((with_reducible refine (B _).mono ?_); rintro e w1 ⟨rfl, hb⟩; obtain ⟨hc, hf⟩ := bcell hb; have hz := hb.size; (try simp at hz); (try have hzT := Nat.lt_of_succ_le hz); have hzA : w.heap.size < w1.heap.size := (by omega); have hzB : w.heap.size + 1 < w1.heap.size := (by omega); have hzA2 := Nat.le_of_lt hzA; have hzB2 := Nat.le_of_lt hzB))
        obtain ⟨L1, L2, f1, f2⟩ := after2 hb; have k0 := L1 0 _ rfl; have k1 := L1 1 _ rfl; have k2 := L1 2 _ rfl; have k3 := L1 3 _ rfl; have k4 := L1 4 _ rfl; have k5 := L1 5 _ rfl; have k6 := L1 6 _ rfl; have k7 := L1 7 _ rfl; have k8 := L1 8 _ rfl; have k9 := L1 9 _ rfl; have k10 := L1 10 _ rfl; have k11 := L1 11 _ rfl; have m0 := L2 0 _ rfl; have m1 := L2 1 _ rfl; have m2 := L2 2 _ rfl; have m3 := L2 3 _ rfl; have m4 := L2 4 _ rfl; have m5 := L2 5 _ rfl; have m6 := L2 6 _ rfl; have m7 := L2 7 _ rfl; have m8 := L2 8 _ rfl; have m9 := L2 9 _ rfl; have m10 := L2 10 _ rfl; have m11 := L2 11 _ rfl; clear L1 L2 hc hf
        refine wp_loop_rounds 4 ?_
        rw [rounds_succ]
        go_wp2_with fail
        all_goals (try (rw [rounds_succ]; go_wp2_with fail))
        all_goals (try (rw [rounds_succ]; go_wp2_with fail))
        all_goals (try (rw [rounds_succ]; go_wp2_with fail))
        refine bodyPost_ret (v := sagaV o ⟨a, 1, c, d, e, f, x⟩) (by unfold sagaV; simp [results, Tryd.results78, go_sem, *]) rfl ⟨by rw [HQ.out], (by with_reducible (repeat (first | assumption | exact Below.refl _ _ | refine Below.drew ?_ | refine below_drewN ?_ _ | refine Below.alloc ?_ (by first | (simp; done) | omega | (simp; omega)) _ | refine Below.setCell ?_ (by first | (simp; done) | omega | (simp; omega)) _ | refine Below.trans ?_ (Below.mono (by assumption) (by first | (simp; done) | omega | (simp; omega))))))⟩
      · have hbb : (b == 0) = false := by simpa using hb
        by_cases hc : c = 0
        · have HQ := Lib.hid (show onOf ⟨a, b, c, d, e, f, x⟩ = ⟨a, b, 1, d, e, f, x⟩ from (onOf_fwd hk).trans (by simp [ha, hb, hc]))
          have hcb : (c == 0) = true := by simpa using hc
          clear hk hc ha hb
          go_enter Tryd.func78, Tryd.ntmps78
          go_wp2_with (go_at_call 58; go_must ((with_reducible refine (B _).mono ?_); rintro e w1 ⟨rfl, hb⟩; obtain ⟨hc, hf⟩ := bcell hb; have hz := hb.size; (try simp at hz); (try have hzT := Nat.lt_of_succ_le hz); have hzA : w.heap.size < w1.heap.size := (by omega); have hzB : w.heap.size + 1 < w1.heap.size := (by omega); have hzA2 := Nat.le_of_lt hzA; have hzB2 := Nat.le_of_lt hzB))
          obtain ⟨L1, L2, f1, f2⟩ := after2 hb; have k0 := L1 0 _ rfl; have k1 := L1 1 _ rfl; have k2 := L1 2 _ rfl; have k3 := L1 3 _ rfl; have k4 := L1 4 _ rfl; have k5 := L1 5 _ rfl; have k6 := L1 6 _ rfl; have k7 := L1 7 _ rfl; have k8 := L1 8 _ rfl; have k9 := L1 9 _ rfl; have k10 := L1 10 _ rfl; have k11 := L1 11 _ rfl; have m0 := L2 0 _ rfl; have m1 := L2 1 _ rfl; have m2 := L2 2 _ rfl; have m3 := L2 3 _ rfl; have m4 := L2 4 _ rfl; have m5 := L2 5 _ rfl; have m6 := L2 6 _ rfl; have m7 := L2 7 _ rfl; have m8 := L2 8 _ rfl; have m9 := L2 9 _ rfl; have m10 := L2 10 _ rfl; have m11 := L2 11 _ rfl; clear L1 L2 hc hf
          refine wp_loop_rounds 4 ?_
          rw [rounds_succ]
          go_wp2_with fail
          all_goals (try (rw [rounds_succ]; go_wp2_with fail))
          all_goals (try (rw [rounds_succ]; go_wp2_with fail))
          all_goals (try (rw [rounds_succ]; go_wp2_with fail))
          refine bodyPost_ret (v := sagaV o ⟨a, b, 1, d, e, f, x⟩) (by unfold sagaV; simp [results, Tryd.results78, go_sem, *]) rfl ⟨by rw [HQ.out], (by with_reducible (repeat (first | assumption | exact Below.refl _ _ | refine Below.drew ?_ | refine below_drewN ?_ _ | refine Below.alloc ?_ (by first | (simp; done) | omega | (simp; omega)) _ | refine Below.setCell ?_ (by first | (simp; done) | omega | (simp; omega)) _ | refine Below.trans ?_ (Below.mono (by assumption) (by first | (simp; done) | omega | (simp; omega))))))⟩
        · have hcb : (c == 0) = false := by simpa using hc
          have HQ := Lib.hid (show onOf ⟨a, b, c, d, e, f, x⟩ = ⟨a, b, c, d, e, f, x⟩ from (onOf_fwd hk).trans (by simp [ha, hb, hc]))
          clear hk ha hb hc
          go_enter Tryd.func78, Tryd.ntmps78
          go_wp2_with (go_at_call 58; go_must ((with_reducible refine (B _).mono ?_); rintro e w1 ⟨rfl, hb⟩; obtain ⟨hc, hf⟩ := bcell hb; have hz := hb.size; (try simp at hz); (try have hzT := Nat.lt_of_succ_le hz); have hzA : w.heap.size < w1.heap.size := (by omega); have hzB : w.heap.size + 1 < w1.heap.size := (by omega); have hzA2 := Nat.le_of_lt hzA; have hzB2 := Nat.le_of_lt hzB))
          obtain ⟨L1, L2, f1, f2⟩ := after2 hb; have k0 := L1 0 _ rfl; have k1 := L1 1 _ rfl; have k2 := L1 2 _ rfl; have k3 := L1 3 _ rfl; have k4 := L1 4 _ rfl; have k5 := L1 5 _ rfl; have k6 := L1 6 _ rfl; have k7 := L1 7 _ rfl; have k8 := L1 8 _ rfl; have k9 := L1 9 _ rfl; have k10 := L1 10 _ rfl; have k11 := L1 11 _ rfl; have m0 := L2 0 _ rfl; have m1 := L2 1 _ rfl; have m2 := L2 2 _ rfl; have m3 := L2 3 _ rfl; have m4 := L2 4 _ rfl; have m5 := L2 5 _ rfl; have m6 := L2 6 _ rfl; have m7 := L2 7 _ rfl; have m8 := L2 8 _ rfl; have m9 := L2 9 _ rfl; have m10 := L2 10 _ rfl; have m11 := L2 11 _ rfl; clear L1 L2 hc hf
          refine wp_loop_rounds 4 ?_
          rw [rounds_succ]
          go_wp2_with fail
          all_goals (try (rw [rounds_succ]; go_wp2_with fail))
          all_goals (try (rw [rounds_succ]; go_wp2_with fail))
          all_goals (try (rw [rounds_succ]; go_wp2_with fail))
          refine bodyPost_ret (v := sagaV o ⟨a, b, c, d, e, f, x⟩) (by unfold sagaV; simp [results, Tryd.results78, go_sem, *]) rfl ⟨by rw [HQ.out], (by with_reducible (repeat (first | assumption | exact Below.refl _ _ | refine Below.drew ?_ | refine below_drewN ?_ _ | refine Below.alloc ?_ (by first | (simp; done) | omega | (simp; omega)) _ | refine Below.setCell ?_ (by first | (simp; done) | omega | (simp; omega)) _ | refine Below.trans ?_ (Below.mono (by assumption) (by first | (simp; done) | omega | (simp; omega))))))⟩
  · rw [(show sagaV o ⟨a, b, c, d, e, f, x⟩ = .agg #[.int .i64 o.id, .string ⟨o.ref.toArray⟩, .string ⟨o.sku.toArray⟩, .int .i64 o.qty, .int .i64 o.amt, .int .i64 a, .int .i64 b, .int .i64 c, .int .i64 d, .int .i64 e, .int .i64 f, .bool x] from rfl), hk] at B
    rw [(show sagaV o ⟨a, b, c, d, e, f, x⟩ = .agg #[.int .i64 o.id, .string ⟨o.ref.toArray⟩, .string ⟨o.sku.toArray⟩, .int .i64 o.qty, .int .i64 o.amt, .int .i64 a, .int .i64 b, .int .i64 c, .int .i64 d, .int .i64 e, .int .i64 f, .bool x] from rfl)]
    have HK := Lib.hid hk
    clear hk
    go_enter Tryd.func78, Tryd.ntmps78
    go_wp2_with (go_at_call 58; go_must ((with_reducible refine (B _).mono ?_); rintro e w1 ⟨rfl, hb⟩; obtain ⟨hc, hf⟩ := bcell hb; have hz := hb.size; (try simp at hz); (try have hzT := Nat.lt_of_succ_le hz); have hzA : w.heap.size < w1.heap.size := (by omega); have hzB : w.heap.size + 1 < w1.heap.size := (by omega); have hzA2 := Nat.le_of_lt hzA; have hzB2 := Nat.le_of_lt hzB))
    obtain ⟨L1, L2, f1, f2⟩ := after2 hb; have k0 := L1 0 _ rfl; have k1 := L1 1 _ rfl; have k2 := L1 2 _ rfl; have k3 := L1 3 _ rfl; have k4 := L1 4 _ rfl; have k5 := L1 5 _ rfl; have k6 := L1 6 _ rfl; have k7 := L1 7 _ rfl; have k8 := L1 8 _ rfl; have k9 := L1 9 _ rfl; have k10 := L1 10 _ rfl; have k11 := L1 11 _ rfl; have m0 := L2 0 _ rfl; have m1 := L2 1 _ rfl; have m2 := L2 2 _ rfl; have m3 := L2 3 _ rfl; have m4 := L2 4 _ rfl; have m5 := L2 5 _ rfl; have m6 := L2 6 _ rfl; have m7 := L2 7 _ rfl; have m8 := L2 8 _ rfl; have m9 := L2 9 _ rfl; have m10 := L2 10 _ rfl; have m11 := L2 11 _ rfl; clear L1 L2 hc hf
    go_loop [4] (fun k => k = .int .i64 2 ∨ (k = .int .i64 1 ∧ ¬ ((c = 2 ∨ c = 4) ∧ f = 0)) ∨ (k = .int .i64 0 ∧ ¬ ((c = 2 ∨ c = 4) ∧ f = 0) ∧ ¬ ((b = 2 ∨ b = 4) ∧ e = 0)) ∨ (k = .int .i64 (-1) ∧ ¬ ((c = 2 ∨ c = 4) ∧ f = 0) ∧ ¬ ((b = 2 ∨ b = 4) ∧ e = 0) ∧ ¬ ((a = 2 ∨ a = 4) ∧ d = 0))) (fun k => (intOf k + 1).toNat)
    case atStart => exact .inl rfl
    case round =>
      rcases hrel with rfl | ⟨rfl, n2⟩ | ⟨rfl, n2, n1⟩ | ⟨rfl, n2, n1, n0⟩
      · by_cases hu : f = 0
        · by_cases h2 : c = 2
          · have HQ := Lib.hid (show onOf ⟨a, b, c, d, e, f, x⟩ = ⟨a, b, c, d, e, 1, x⟩ from (onOf_bwd HK.out).trans (by simp [hu, h2]))
            have hub : (f == 0) = true := by simpa using hu
            have h2b : (c == 2) = true := by simpa using h2
            clear hu h2
            go_wp2_with fail
            refine bodyPost_ret (v := sagaV o ⟨a, b, c, d, e, 1, x⟩) (by unfold sagaV; simp [results, Tryd.results78, go_sem, *]) rfl ⟨by rw [HQ.out], (by with_reducible (repeat (first | assumption | exact Below.refl _ _ | refine Below.drew ?_ | refine below_drewN ?_ _ | refine Below.alloc ?_ (by first | (simp; done) | omega | (simp; omega)) _ | refine Below.setCell ?_ (by first | (simp; done) | omega | (simp; omega)) _ | refine Below.trans ?_ (Below.mono (by assumption) (by first | (simp; done) | omega | (simp; omega))))))⟩
          · by_cases h4 : c = 4
            · have HQ := Lib.hid (show onOf ⟨a, b, c, d, e, f, x⟩ = ⟨a, b, c, d, e, 1, x⟩ from (onOf_bwd HK.out).trans (by simp [hu, h4]))
              have hub : (f == 0) = true := by simpa using hu
              have h2b : (c == 2) = false := by simpa using h2
              have h4b : (c == 4) = true := by simpa using h4
              clear hu h2 h4
              go_wp2_with fail
              refine bodyPost_ret (v := sagaV o ⟨a, b, c, d, e, 1, x⟩) (by unfold sagaV; simp [results, Tryd.results78, go_sem, *]) rfl ⟨by rw [HQ.out], (by with_reducible (repeat (first | assumption | exact Below.refl _ _ | refine Below.drew ?_ | refine below_drewN ?_ _ | refine Below.alloc ?_ (by first | (simp; done) | omega | (simp; omega)) _ | refine Below.setCell ?_ (by first | (simp; done) | omega | (simp; omega)) _ | refine Below.trans ?_ (Below.mono (by assumption) (by first | (simp; done) | omega | (simp; omega))))))⟩
            · have h2b : (c == 2) = false := by simpa using h2
              have h4b : (c == 4) = false := by simpa using h4
              have NN := Lib.hid (show ¬ ((c = 2 ∨ c = 4) ∧ f = 0) from fun h => h.1.elim h2 h4)
              clear hu h2 h4
              go_wp2_with fail
              go_round
              case rel => exact .inr (.inl ⟨rfl, NN.out⟩)
              case measure => simp [intOf] <;> omega
        · have NN := Lib.hid (show ¬ ((c = 2 ∨ c = 4) ∧ f = 0) from fun h => hu h.2)
          have hub : (f == 0) = false := by simpa using hu
          clear hu
          by_cases h2 : c = 2
          · have h2b : (c == 2) = true := by simpa using h2
            clear h2
            go_wp2_with fail
            go_round
            case rel => exact .inr (.inl ⟨rfl, NN.out⟩)
            case measure => simp [intOf] <;> omega
          · have h2b : (c == 2) = false := by simpa using h2
            clear h2
            by_cases h4 : c = 4
            · have h4b : (c == 4) = true := by simpa using h4
              clear h4
              go_wp2_with fail
              go_round
              case rel => exact .inr (.inl ⟨rfl, NN.out⟩)
              case measure => simp [intOf] <;> omega
            · have h4b : (c == 4) = false := by simpa using h4
              clear h4
              go_wp2_with fail
              go_round
              case rel => exact .inr (.inl ⟨rfl, NN.out⟩)
              case measure => simp [intOf] <;> omega
      · have N2 := Lib.hid n2
        clear n2
        by_cases hu : e = 0
        · by_cases h2 : b = 2
          · have HQ := Lib.hid (show onOf ⟨a, b, c, d, e, f, x⟩ = ⟨a, b, c, d, 1, f, x⟩ from (onOf_bwd HK.out).trans (by rw [if_neg N2.out]; simp [hu, h2]))
            have hub : (e == 0) = true := by simpa using hu
            have h2b : (b == 2) = true := by simpa using h2
            clear hu h2
            go_wp2_with fail
            refine bodyPost_ret (v := sagaV o ⟨a, b, c, d, 1, f, x⟩) (by unfold sagaV; simp [results, Tryd.results78, go_sem, *]) rfl ⟨by rw [HQ.out], (by with_reducible (repeat (first | assumption | exact Below.refl _ _ | refine Below.drew ?_ | refine below_drewN ?_ _ | refine Below.alloc ?_ (by first | (simp; done) | omega | (simp; omega)) _ | refine Below.setCell ?_ (by first | (simp; done) | omega | (simp; omega)) _ | refine Below.trans ?_ (Below.mono (by assumption) (by first | (simp; done) | omega | (simp; omega))))))⟩
          · by_cases h4 : b = 4
            · have HQ := Lib.hid (show onOf ⟨a, b, c, d, e, f, x⟩ = ⟨a, b, c, d, 1, f, x⟩ from (onOf_bwd HK.out).trans (by rw [if_neg N2.out]; simp [hu, h4]))
              have hub : (e == 0) = true := by simpa using hu
              have h2b : (b == 2) = false := by simpa using h2
              have h4b : (b == 4) = true := by simpa using h4
              clear hu h2 h4
              go_wp2_with fail
              refine bodyPost_ret (v := sagaV o ⟨a, b, c, d, 1, f, x⟩) (by unfold sagaV; simp [results, Tryd.results78, go_sem, *]) rfl ⟨by rw [HQ.out], (by with_reducible (repeat (first | assumption | exact Below.refl _ _ | refine Below.drew ?_ | refine below_drewN ?_ _ | refine Below.alloc ?_ (by first | (simp; done) | omega | (simp; omega)) _ | refine Below.setCell ?_ (by first | (simp; done) | omega | (simp; omega)) _ | refine Below.trans ?_ (Below.mono (by assumption) (by first | (simp; done) | omega | (simp; omega))))))⟩
            · have h2b : (b == 2) = false := by simpa using h2
              have h4b : (b == 4) = false := by simpa using h4
              have NN := Lib.hid (show ¬ ((b = 2 ∨ b = 4) ∧ e = 0) from fun h => h.1.elim h2 h4)
              clear hu h2 h4
              go_wp2_with fail
              go_round
              case rel => exact .inr (.inr (.inl ⟨rfl, N2.out, NN.out⟩))
              case measure => simp [intOf] <;> omega
        · have NN := Lib.hid (show ¬ ((b = 2 ∨ b = 4) ∧ e = 0) from fun h => hu h.2)
          have hub : (e == 0) = false := by simpa using hu
          clear hu
          by_cases h2 : b = 2
          · have h2b : (b == 2) = true := by simpa using h2
            clear h2
            go_wp2_with fail
            go_round
            case rel => exact .inr (.inr (.inl ⟨rfl, N2.out, NN.out⟩))
            case measure => simp [intOf] <;> omega
          · have h2b : (b == 2) = false := by simpa using h2
            clear h2
            by_cases h4 : b = 4
            · have h4b : (b == 4) = true := by simpa using h4
              clear h4
              go_wp2_with fail
              go_round
              case rel => exact .inr (.inr (.inl ⟨rfl, N2.out, NN.out⟩))
              case measure => simp [intOf] <;> omega
            · have h4b : (b == 4) = false := by simpa using h4
              clear h4
              go_wp2_with fail
              go_round
              case rel => exact .inr (.inr (.inl ⟨rfl, N2.out, NN.out⟩))
              case measure => simp [intOf] <;> omega
      · have N2 := Lib.hid n2
        clear n2
        have N1 := Lib.hid n1
        clear n1
        by_cases hu : d = 0
        · by_cases h2 : a = 2
          · have HQ := Lib.hid (show onOf ⟨a, b, c, d, e, f, x⟩ = ⟨a, b, c, 1, e, f, x⟩ from (onOf_bwd HK.out).trans (by rw [if_neg N2.out]; rw [if_neg N1.out]; simp [hu, h2]))
            have hub : (d == 0) = true := by simpa using hu
            have h2b : (a == 2) = true := by simpa using h2
            clear hu h2
            go_wp2_with fail
            refine bodyPost_ret (v := sagaV o ⟨a, b, c, 1, e, f, x⟩) (by unfold sagaV; simp [results, Tryd.results78, go_sem, *]) rfl ⟨by rw [HQ.out], (by with_reducible (repeat (first | assumption | exact Below.refl _ _ | refine Below.drew ?_ | refine below_drewN ?_ _ | refine Below.alloc ?_ (by first | (simp; done) | omega | (simp; omega)) _ | refine Below.setCell ?_ (by first | (simp; done) | omega | (simp; omega)) _ | refine Below.trans ?_ (Below.mono (by assumption) (by first | (simp; done) | omega | (simp; omega))))))⟩
          · by_cases h4 : a = 4
            · have HQ := Lib.hid (show onOf ⟨a, b, c, d, e, f, x⟩ = ⟨a, b, c, 1, e, f, x⟩ from (onOf_bwd HK.out).trans (by rw [if_neg N2.out]; rw [if_neg N1.out]; simp [hu, h4]))
              have hub : (d == 0) = true := by simpa using hu
              have h2b : (a == 2) = false := by simpa using h2
              have h4b : (a == 4) = true := by simpa using h4
              clear hu h2 h4
              go_wp2_with fail
              refine bodyPost_ret (v := sagaV o ⟨a, b, c, 1, e, f, x⟩) (by unfold sagaV; simp [results, Tryd.results78, go_sem, *]) rfl ⟨by rw [HQ.out], (by with_reducible (repeat (first | assumption | exact Below.refl _ _ | refine Below.drew ?_ | refine below_drewN ?_ _ | refine Below.alloc ?_ (by first | (simp; done) | omega | (simp; omega)) _ | refine Below.setCell ?_ (by first | (simp; done) | omega | (simp; omega)) _ | refine Below.trans ?_ (Below.mono (by assumption) (by first | (simp; done) | omega | (simp; omega))))))⟩
            · have h2b : (a == 2) = false := by simpa using h2
              have h4b : (a == 4) = false := by simpa using h4
              have NN := Lib.hid (show ¬ ((a = 2 ∨ a = 4) ∧ d = 0) from fun h => h.1.elim h2 h4)
              clear hu h2 h4
              go_wp2_with fail
              go_round
              case rel => exact .inr (.inr (.inr ⟨rfl, N2.out, N1.out, NN.out⟩))
              case measure => simp [intOf] <;> omega
        · have NN := Lib.hid (show ¬ ((a = 2 ∨ a = 4) ∧ d = 0) from fun h => hu h.2)
          have hub : (d == 0) = false := by simpa using hu
          clear hu
          by_cases h2 : a = 2
          · have h2b : (a == 2) = true := by simpa using h2
            clear h2
            go_wp2_with fail
            go_round
            case rel => exact .inr (.inr (.inr ⟨rfl, N2.out, N1.out, NN.out⟩))
            case measure => simp [intOf] <;> omega
          · have h2b : (a == 2) = false := by simpa using h2
            clear h2
            by_cases h4 : a = 4
            · have h4b : (a == 4) = true := by simpa using h4
              clear h4
              go_wp2_with fail
              go_round
              case rel => exact .inr (.inr (.inr ⟨rfl, N2.out, N1.out, NN.out⟩))
              case measure => simp [intOf] <;> omega
            · have h4b : (a == 4) = false := by simpa using h4
              clear h4
              go_wp2_with fail
              go_round
              case rel => exact .inr (.inr (.inr ⟨rfl, N2.out, N1.out, NN.out⟩))
              case measure => simp [intOf] <;> omega
      · have HQ := Lib.hid (show onOf ⟨a, b, c, d, e, f, x⟩ = ⟨a, b, c, d, e, f, x⟩ from (onOf_bwd HK.out).trans (by rw [if_neg n2, if_neg n1, if_neg n0]))
        clear n2 n1 n0
        go_wp2_with fail
        refine bodyPost_ret (v := sagaV o ⟨a, b, c, d, e, f, x⟩) (by unfold sagaV; simp [results, Tryd.results78, go_sem, *]) rfl ⟨by rw [HQ.out], (by with_reducible (repeat (first | assumption | exact Below.refl _ _ | refine Below.drew ?_ | refine below_drewN ?_ _ | refine Below.alloc ?_ (by first | (simp; done) | omega | (simp; omega)) _ | refine Below.setCell ?_ (by first | (simp; done) | omega | (simp; omega)) _ | refine Below.trans ?_ (Below.mono (by assumption) (by first | (simp; done) | omega | (simp; omega))))))⟩
end Go.Proofs.YtlfphfklcifgpaaDoor

/-
  What a saga becomes by a reply, by walking both texts; conditions: none. (Printed by wip/mksaga.py.)
-/
import Derived.Test.YtlfphfklcifgpaaDoorSagaD
import Derived.Test.YtlfphfklcifgpaaDoorMem2
namespace Go.Proofs.YtlfphfklcifgpaaDoor
open Go.RowKit Go.Own

set_option maxHeartbeats 8000000 in
set_option maxRecDepth 100000 in
theorem reply_any (o : OrdS) (s : D6) (deed code : Int) (w : World) : Calls Tryd.prog 50 #[sagaV o s, .int .i64 deed, .int .i64 code] w fun e w' => e = .returned (replyV o (replyOf s deed code)) ∧ Below w.heap.size w w' := by
  have W := fun w => waits_any o s w
  have hcs := waitsOf_cases s
  obtain ⟨a, b, c, d, e, f, x⟩ := s
  rw [(show sagaV o ⟨a, b, c, d, e, f, x⟩ = .agg #[.int .i64 o.id, .string ⟨o.ref.toArray⟩, .string ⟨o.sku.toArray⟩, .int .i64 o.qty, .int .i64 o.amt, .int .i64 a, .int .i64 b, .int .i64 c, .int .i64 d, .int .i64 e, .int .i64 f, .bool x] from rfl)] at W ⊢
  generalize hw : waitsOf ⟨a, b, c, d, e, f, x⟩ = p at *
  obtain ⟨n, v⟩ := p
  simp only at W hcs
  rcases hcs with ⟨rfl, rfl⟩ | ⟨rfl, hcs⟩
  · have HQ := Lib.hid (show replyOf ⟨a, b, c, d, e, f, x⟩ deed code = none by simp [replyOf, hw])
    clear hw
    go_enter Tryd.func50, Tryd.ntmps50
    go_wp2_with (go_at_call 31; go_must ((with_reducible refine (W _).mono ?_); rintro e w1 ⟨rfl, hb⟩; obtain ⟨hc, hf⟩ := bcell hb; have hz := hb.size; (try simp at hz); (try have hzT := Nat.lt_of_succ_le hz); have hzA : w.heap.size < w1.heap.size := (by omega); have hzB : w.heap.size + 1 < w1.heap.size := (by omega); have hzA2 := Nat.le_of_lt hzA; have hzB2 := Nat.le_of_lt hzB; have hT := Two.of hb; obtain ⟨k0, k1, k2, k3, k4, k5, k6, k7, k8, k9, k10, k11⟩ := (hT).cells1; have f1 := (hT).f1; obtain ⟨m0, m1, m2, m3, m4, m5, m6, m7, m8, m9, m10, m11⟩ := (hT).cells2; have f2 := (hT).f2; clear hc hf; have HT := Lib.hid hT; clear hT))
    refine bodyPost_ret (v := .tuple #[noneV, .bool false]) (by unfold noneV; simp [results, Tryd.results50, go_sem, *]) rfl ⟨by rw [HQ.out]; rfl, (by with_reducible (repeat (first | assumption | exact Below.refl _ _ | refine Below.drew ?_ | refine below_drewN ?_ _ | refine Below.alloc ?_ (by first | (simp; done) | omega | (simp; omega)) _ | refine Below.setCell ?_ (by first | (simp; done) | omega | (simp; omega)) _ | refine Below.trans ?_ (Below.mono (by assumption) (by first | (simp; done) | omega | (simp; omega))))))⟩
  by_cases hd : n = deed
  rotate_left
  · have HQ := Lib.hid (show replyOf ⟨a, b, c, d, e, f, x⟩ deed code = none by simp [replyOf, hw, hd])
    have hdn : (n != deed) = true := by simpa using hd
    clear hd hw hcs
    go_enter Tryd.func50, Tryd.ntmps50
    go_wp2_with (go_at_call 31; go_must ((with_reducible refine (W _).mono ?_); rintro e w1 ⟨rfl, hb⟩; obtain ⟨hc, hf⟩ := bcell hb; have hz := hb.size; (try simp at hz); (try have hzT := Nat.lt_of_succ_le hz); have hzA : w.heap.size < w1.heap.size := (by omega); have hzB : w.heap.size + 1 < w1.heap.size := (by omega); have hzA2 := Nat.le_of_lt hzA; have hzB2 := Nat.le_of_lt hzB; have hT := Two.of hb; obtain ⟨k0, k1, k2, k3, k4, k5, k6, k7, k8, k9, k10, k11⟩ := (hT).cells1; have f1 := (hT).f1; obtain ⟨m0, m1, m2, m3, m4, m5, m6, m7, m8, m9, m10, m11⟩ := (hT).cells2; have f2 := (hT).f2; clear hc hf; have HT := Lib.hid hT; clear hT))
    refine bodyPost_ret (v := .tuple #[noneV, .bool false]) (by unfold noneV; simp [results, Tryd.results50, go_sem, *]) rfl ⟨by rw [HQ.out]; rfl, (by with_reducible (repeat (first | assumption | exact Below.refl _ _ | refine Below.drew ?_ | refine below_drewN ?_ _ | refine Below.alloc ?_ (by first | (simp; done) | omega | (simp; omega)) _ | refine Below.setCell ?_ (by first | (simp; done) | omega | (simp; omega)) _ | refine Below.trans ?_ (Below.mono (by assumption) (by first | (simp; done) | omega | (simp; omega))))))⟩
  subst hd
  by_cases h1 : code = 1
  · subst h1
    rcases hcs with rfl | rfl | rfl | rfl | rfl | rfl
    · have HQ := Lib.hid (show replyOf ⟨a, b, c, d, e, f, x⟩ 0 1 = some (onOf ⟨2, b, c, d, e, f, x⟩) by simp [replyOf, hw, setD])
      have On := fun w => on_any o ⟨2, b, c, d, e, f, x⟩ w
      generalize onOf ⟨2, b, c, d, e, f, x⟩ = z at *
      simp only [sagaV] at On
      clear hw
      go_enter Tryd.func50, Tryd.ntmps50
      go_wp2_with (go_at_call 31; go_must ((with_reducible refine (W _).mono ?_); rintro e w1 ⟨rfl, hb⟩; obtain ⟨hc, hf⟩ := bcell hb; have hz := hb.size; (try simp at hz); (try have hzT := Nat.lt_of_succ_le hz); have hzA : w.heap.size < w1.heap.size := (by omega); have hzB : w.heap.size + 1 < w1.heap.size := (by omega); have hzA2 := Nat.le_of_lt hzA; have hzB2 := Nat.le_of_lt hzB; have hT := Two.of hb; obtain ⟨k0, k1, k2, k3, k4, k5, k6, k7, k8, k9, k10, k11⟩ := (hT).cells1; have f1 := (hT).f1; obtain ⟨m0, m1, m2, m3, m4, m5, m6, m7, m8, m9, m10, m11⟩ := (hT).cells2; have f2 := (hT).f2; clear hc hf; have HT := Lib.hid hT; clear hT))
      go_wp2_with (go_at_call 78; go_must ((with_reducible refine (On _).mono ?_); rintro e w2 ⟨rfl, hb2⟩; clear k0 k1 k2 k3 k4 k5 k6 k7 k8 k9 k10 k11 f1; clear m0 m1 m2 m3 m4 m5 m6 m7 m8 m9 m10 m11 f2; have hT2 := (HT.out.set (k := 5) (by simp) (.int .i64 2)).below hb2; obtain ⟨m0, m1, m2, m3, m4, m5, m6, m7, m8, m9, m10, m11⟩ := (hT2).cells2; have f2 := (hT2).f2; have hW2 := Lib.hid (show Below w.heap.size w w2 from (Below.setCell (Below.trans (((Below.refl _ _).alloc (Nat.le_refl _) _).alloc (by simp) _) (hb.mono (by simp; omega))) (Nat.le_refl _) _).trans (hb2.mono (by simp; omega))); clear hT2 hb2 hb))
      refine bodyPost_ret (v := .tuple #[sagaV o z, .bool true]) (by unfold sagaV; simp [results, Tryd.results50, go_sem, *]) rfl ⟨by rw [HQ.out]; rfl, ?_⟩
      have hW2 := hW2.out
      (with_reducible repeat (first | assumption | refine Below.setCell ?_ (by first | exact Nat.le_refl _ | omega | (simp; done) | (simp; omega)) _))
    · have HQ := Lib.hid (show replyOf ⟨a, b, c, d, e, f, x⟩ 1 1 = some (onOf ⟨a, 2, c, d, e, f, x⟩) by simp [replyOf, hw, setD])
      have On := fun w => on_any o ⟨a, 2, c, d, e, f, x⟩ w
      generalize onOf ⟨a, 2, c, d, e, f, x⟩ = z at *
      simp only [sagaV] at On
      clear hw
      go_enter Tryd.func50, Tryd.ntmps50
      go_wp2_with (go_at_call 31; go_must ((with_reducible refine (W _).mono ?_); rintro e w1 ⟨rfl, hb⟩; obtain ⟨hc, hf⟩ := bcell hb; have hz := hb.size; (try simp at hz); (try have hzT := Nat.lt_of_succ_le hz); have hzA : w.heap.size < w1.heap.size := (by omega); have hzB : w.heap.size + 1 < w1.heap.size := (by omega); have hzA2 := Nat.le_of_lt hzA; have hzB2 := Nat.le_of_lt hzB; have hT := Two.of hb; obtain ⟨k0, k1, k2, k3, k4, k5, k6, k7, k8, k9, k10, k11⟩ := (hT).cells1; have f1 := (hT).f1; obtain ⟨m0, m1, m2, m3, m4, m5, m6, m7, m8, m9, m10, m11⟩ := (hT).cells2; have f2 := (hT).f2; clear hc hf; have HT := Lib.hid hT; clear hT))
      go_wp2_with (go_at_call 78; go_must ((with_reducible refine (On _).mono ?_); rintro e w2 ⟨rfl, hb2⟩; clear k0 k1 k2 k3 k4 k5 k6 k7 k8 k9 k10 k11 f1; clear m0 m1 m2 m3 m4 m5 m6 m7 m8 m9 m10 m11 f2; have hT2 := (HT.out.set (k := 6) (by simp) (.int .i64 2)).below hb2; obtain ⟨m0, m1, m2, m3, m4, m5, m6, m7, m8, m9, m10, m11⟩ := (hT2).cells2; have f2 := (hT2).f2; have hW2 := Lib.hid (show Below w.heap.size w w2 from (Below.setCell (Below.trans (((Below.refl _ _).alloc (Nat.le_refl _) _).alloc (by simp) _) (hb.mono (by simp; omega))) (Nat.le_refl _) _).trans (hb2.mono (by simp; omega))); clear hT2 hb2 hb))
      refine bodyPost_ret (v := .tuple #[sagaV o z, .bool true]) (by unfold sagaV; simp [results, Tryd.results50, go_sem, *]) rfl ⟨by rw [HQ.out]; rfl, ?_⟩
      have hW2 := hW2.out
      (with_reducible repeat (first | assumption | refine Below.setCell ?_ (by first | exact Nat.le_refl _ | omega | (simp; done) | (simp; omega)) _))
    · have HQ := Lib.hid (show replyOf ⟨a, b, c, d, e, f, x⟩ 2 1 = some (onOf ⟨a, b, 2, d, e, f, x⟩) by simp [replyOf, hw, setD])
      have On := fun w => on_any o ⟨a, b, 2, d, e, f, x⟩ w
      generalize onOf ⟨a, b, 2, d, e, f, x⟩ = z at *
      simp only [sagaV] at On
      clear hw
      go_enter Tryd.func50, Tryd.ntmps50
      go_wp2_with (go_at_call 31; go_must ((with_reducible refine (W _).mono ?_); rintro e w1 ⟨rfl, hb⟩; obtain ⟨hc, hf⟩ := bcell hb; have hz := hb.size; (try simp at hz); (try have hzT := Nat.lt_of_succ_le hz); have hzA : w.heap.size < w1.heap.size := (by omega); have hzB : w.heap.size + 1 < w1.heap.size := (by omega); have hzA2 := Nat.le_of_lt hzA; have hzB2 := Nat.le_of_lt hzB; have hT := Two.of hb; obtain ⟨k0, k1, k2, k3, k4, k5, k6, k7, k8, k9, k10, k11⟩ := (hT).cells1; have f1 := (hT).f1; obtain ⟨m0, m1, m2, m3, m4, m5, m6, m7, m8, m9, m10, m11⟩ := (hT).cells2; have f2 := (hT).f2; clear hc hf; have HT := Lib.hid hT; clear hT))
      go_wp2_with (go_at_call 78; go_must ((with_reducible refine (On _).mono ?_); rintro e w2 ⟨rfl, hb2⟩; clear k0 k1 k2 k3 k4 k5 k6 k7 k8 k9 k10 k11 f1; clear m0 m1 m2 m3 m4 m5 m6 m7 m8 m9 m10 m11 f2; have hT2 := (HT.out.set (k := 7) (by simp) (.int .i64 2)).below hb2; obtain ⟨m0, m1, m2, m3, m4, m5, m6, m7, m8, m9, m10, m11⟩ := (hT2).cells2; have f2 := (hT2).f2; have hW2 := Lib.hid (show Below w.heap.size w w2 from (Below.setCell (Below.trans (((Below.refl _ _).alloc (Nat.le_refl _) _).alloc (by simp) _) (hb.mono (by simp; omega))) (Nat.le_refl _) _).trans (hb2.mono (by simp; omega))); clear hT2 hb2 hb))
      refine bodyPost_ret (v := .tuple #[sagaV o z, .bool true]) (by unfold sagaV; simp [results, Tryd.results50, go_sem, *]) rfl ⟨by rw [HQ.out]; rfl, ?_⟩
      have hW2 := hW2.out
      (with_reducible repeat (first | assumption | refine Below.setCell ?_ (by first | exact Nat.le_refl _ | omega | (simp; done) | (simp; omega)) _))
    · have HQ := Lib.hid (show replyOf ⟨a, b, c, d, e, f, x⟩ 3 1 = some (onOf ⟨a, b, c, 2, e, f, x⟩) by simp [replyOf, hw, setD])
      have On := fun w => on_any o ⟨a, b, c, 2, e, f, x⟩ w
      generalize onOf ⟨a, b, c, 2, e, f, x⟩ = z at *
      simp only [sagaV] at On
      clear hw
      go_enter Tryd.func50, Tryd.ntmps50
      go_wp2_with (go_at_call 31; go_must ((with_reducible refine (W _).mono ?_); rintro e w1 ⟨rfl, hb⟩; obtain ⟨hc, hf⟩ := bcell hb; have hz := hb.size; (try simp at hz); (try have hzT := Nat.lt_of_succ_le hz); have hzA : w.heap.size < w1.heap.size := (by omega); have hzB : w.heap.size + 1 < w1.heap.size := (by omega); have hzA2 := Nat.le_of_lt hzA; have hzB2 := Nat.le_of_lt hzB; have hT := Two.of hb; obtain ⟨k0, k1, k2, k3, k4, k5, k6, k7, k8, k9, k10, k11⟩ := (hT).cells1; have f1 := (hT).f1; obtain ⟨m0, m1, m2, m3, m4, m5, m6, m7, m8, m9, m10, m11⟩ := (hT).cells2; have f2 := (hT).f2; clear hc hf; have HT := Lib.hid hT; clear hT))
      go_wp2_with (go_at_call 78; go_must ((with_reducible refine (On _).mono ?_); rintro e w2 ⟨rfl, hb2⟩; clear k0 k1 k2 k3 k4 k5 k6 k7 k8 k9 k10 k11 f1; clear m0 m1 m2 m3 m4 m5 m6 m7 m8 m9 m10 m11 f2; have hT2 := (HT.out.set (k := 8) (by simp) (.int .i64 2)).below hb2; obtain ⟨m0, m1, m2, m3, m4, m5, m6, m7, m8, m9, m10, m11⟩ := (hT2).cells2; have f2 := (hT2).f2; have hW2 := Lib.hid (show Below w.heap.size w w2 from (Below.setCell (Below.trans (((Below.refl _ _).alloc (Nat.le_refl _) _).alloc (by simp) _) (hb.mono (by simp; omega))) (Nat.le_refl _) _).trans (hb2.mono (by simp; omega))); clear hT2 hb2 hb))
      refine bodyPost_ret (v := .tuple #[sagaV o z, .bool true]) (by unfold sagaV; simp [results, Tryd.results50, go_sem, *]) rfl ⟨by rw [HQ.out]; rfl, ?_⟩
      have hW2 := hW2.out
      (with_reducible repeat (first | assumption | refine Below.setCell ?_ (by first | exact Nat.le_refl _ | omega | (simp; done) | (simp; omega)) _))
    · have HQ := Lib.hid (show replyOf ⟨a, b, c, d, e, f, x⟩ 4 1 = some (onOf ⟨a, b, c, d, 2, f, x⟩) by simp [replyOf, hw, setD])
      have On := fun w => on_any o ⟨a, b, c, d, 2, f, x⟩ w
      generalize onOf ⟨a, b, c, d, 2, f, x⟩ = z at *
      simp only [sagaV] at On
      clear hw
      go_enter Tryd.func50, Tryd.ntmps50
      go_wp2_with (go_at_call 31; go_must ((with_reducible refine (W _).mono ?_); rintro e w1 ⟨rfl, hb⟩; obtain ⟨hc, hf⟩ := bcell hb; have hz := hb.size; (try simp at hz); (try have hzT := Nat.lt_of_succ_le hz); have hzA : w.heap.size < w1.heap.size := (by omega); have hzB : w.heap.size + 1 < w1.heap.size := (by omega); have hzA2 := Nat.le_of_lt hzA; have hzB2 := Nat.le_of_lt hzB; have hT := Two.of hb; obtain ⟨k0, k1, k2, k3, k4, k5, k6, k7, k8, k9, k10, k11⟩ := (hT).cells1; have f1 := (hT).f1; obtain ⟨m0, m1, m2, m3, m4, m5, m6, m7, m8, m9, m10, m11⟩ := (hT).cells2; have f2 := (hT).f2; clear hc hf; have HT := Lib.hid hT; clear hT))
      go_wp2_with (go_at_call 78; go_must ((with_reducible refine (On _).mono ?_); rintro e w2 ⟨rfl, hb2⟩; clear k0 k1 k2 k3 k4 k5 k6 k7 k8 k9 k10 k11 f1; clear m0 m1 m2 m3 m4 m5 m6 m7 m8 m9 m10 m11 f2; have hT2 := (HT.out.set (k := 9) (by simp) (.int .i64 2)).below hb2; obtain ⟨m0, m1, m2, m3, m4, m5, m6, m7, m8, m9, m10, m11⟩ := (hT2).cells2; have f2 := (hT2).f2; have hW2 := Lib.hid (show Below w.heap.size w w2 from (Below.setCell (Below.trans (((Below.refl _ _).alloc (Nat.le_refl _) _).alloc (by simp) _) (hb.mono (by simp; omega))) (Nat.le_refl _) _).trans (hb2.mono (by simp; omega))); clear hT2 hb2 hb))
      refine bodyPost_ret (v := .tuple #[sagaV o z, .bool true]) (by unfold sagaV; simp [results, Tryd.results50, go_sem, *]) rfl ⟨by rw [HQ.out]; rfl, ?_⟩
      have hW2 := hW2.out
      (with_reducible repeat (first | assumption | refine Below.setCell ?_ (by first | exact Nat.le_refl _ | omega | (simp; done) | (simp; omega)) _))
    · have HQ := Lib.hid (show replyOf ⟨a, b, c, d, e, f, x⟩ 5 1 = some (onOf ⟨a, b, c, d, e, 2, x⟩) by simp [replyOf, hw, setD])
      have On := fun w => on_any o ⟨a, b, c, d, e, 2, x⟩ w
      generalize onOf ⟨a, b, c, d, e, 2, x⟩ = z at *
      simp only [sagaV] at On
      clear hw
      go_enter Tryd.func50, Tryd.ntmps50
      go_wp2_with (go_at_call 31; go_must ((with_reducible refine (W _).mono ?_); rintro e w1 ⟨rfl, hb⟩; obtain ⟨hc, hf⟩ := bcell hb; have hz := hb.size; (try simp at hz); (try have hzT := Nat.lt_of_succ_le hz); have hzA : w.heap.size < w1.heap.size := (by omega); have hzB : w.heap.size + 1 < w1.heap.size := (by omega); have hzA2 := Nat.le_of_lt hzA; have hzB2 := Nat.le_of_lt hzB; have hT := Two.of hb; obtain ⟨k0, k1, k2, k3, k4, k5, k6, k7, k8, k9, k10, k11⟩ := (hT).cells1; have f1 := (hT).f1; obtain ⟨m0, m1, m2, m3, m4, m5, m6, m7, m8, m9, m10, m11⟩ := (hT).cells2; have f2 := (hT).f2; clear hc hf; have HT := Lib.hid hT; clear hT))
      go_wp2_with (go_at_call 78; go_must ((with_reducible refine (On _).mono ?_); rintro e w2 ⟨rfl, hb2⟩; clear k0 k1 k2 k3 k4 k5 k6 k7 k8 k9 k10 k11 f1; clear m0 m1 m2 m3 m4 m5 m6 m7 m8 m9 m10 m11 f2; have hT2 := (HT.out.set (k := 10) (by simp) (.int .i64 2)).below hb2; obtain ⟨m0, m1, m2, m3, m4, m5, m6, m7, m8, m9, m10, m11⟩ := (hT2).cells2; have f2 := (hT2).f2; have hW2 := Lib.hid (show Below w.heap.size w w2 from (Below.setCell (Below.trans (((Below.refl _ _).alloc (Nat.le_refl _) _).alloc (by simp) _) (hb.mono (by simp; omega))) (Nat.le_refl _) _).trans (hb2.mono (by simp; omega))); clear hT2 hb2 hb))
      refine bodyPost_ret (v := .tuple #[sagaV o z, .bool true]) (by unfold sagaV; simp [results, Tryd.results50, go_sem, *]) rfl ⟨by rw [HQ.out]; rfl, ?_⟩
      have hW2 := hW2.out
      (with_reducible repeat (first | assumption | refine Below.setCell ?_ (by first | exact Nat.le_refl _ | omega | (simp; done) | (simp; omega)) _))
  by_cases h2 : code = 2
  rotate_left
  · have HQ := Lib.hid (show replyOf ⟨a, b, c, d, e, f, x⟩ n code = none by simp [replyOf, hw, h1, h2])
    have h1n : (code != 1) = true := by simpa using h1
    have h2n : (code != 2) = true := by simpa using h2
    have h1e : (code == 1) = false := by simpa using h1
    have h2e : (code == 2) = false := by simpa using h2
    clear h1 h2 hw hcs
    go_enter Tryd.func50, Tryd.ntmps50
    go_wp2_with (go_at_call 31; go_must ((with_reducible refine (W _).mono ?_); rintro e w1 ⟨rfl, hb⟩; obtain ⟨hc, hf⟩ := bcell hb; have hz := hb.size; (try simp at hz); (try have hzT := Nat.lt_of_succ_le hz); have hzA : w.heap.size < w1.heap.size := (by omega); have hzB : w.heap.size + 1 < w1.heap.size := (by omega); have hzA2 := Nat.le_of_lt hzA; have hzB2 := Nat.le_of_lt hzB; have hT := Two.of hb; obtain ⟨k0, k1, k2, k3, k4, k5, k6, k7, k8, k9, k10, k11⟩ := (hT).cells1; have f1 := (hT).f1; obtain ⟨m0, m1, m2, m3, m4, m5, m6, m7, m8, m9, m10, m11⟩ := (hT).cells2; have f2 := (hT).f2; clear hc hf; have HT := Lib.hid hT; clear hT))
    refine bodyPost_ret (v := .tuple #[noneV, .bool false]) (by unfold noneV; simp [results, Tryd.results50, go_sem, *]) rfl ⟨by rw [HQ.out]; rfl, (by with_reducible (repeat (first | assumption | exact Below.refl _ _ | refine Below.drew ?_ | refine below_drewN ?_ _ | refine Below.alloc ?_ (by first | (simp; done) | omega | (simp; omega)) _ | refine Below.setCell ?_ (by first | (simp; done) | omega | (simp; omega)) _ | refine Below.trans ?_ (Below.mono (by assumption) (by first | (simp; done) | omega | (simp; omega))))))⟩
  subst h2
  by_cases h3 : n ≤ 2
  rotate_left
  · have HQ := Lib.hid (show replyOf ⟨a, b, c, d, e, f, x⟩ n 2 = none by simp [replyOf, hw, h3])
    have h3n : 2 < n := by omega
    clear h3 hw hcs h1
    go_enter Tryd.func50, Tryd.ntmps50
    go_wp2_with (go_at_call 31; go_must ((with_reducible refine (W _).mono ?_); rintro e w1 ⟨rfl, hb⟩; obtain ⟨hc, hf⟩ := bcell hb; have hz := hb.size; (try simp at hz); (try have hzT := Nat.lt_of_succ_le hz); have hzA : w.heap.size < w1.heap.size := (by omega); have hzB : w.heap.size + 1 < w1.heap.size := (by omega); have hzA2 := Nat.le_of_lt hzA; have hzB2 := Nat.le_of_lt hzB; have hT := Two.of hb; obtain ⟨k0, k1, k2, k3, k4, k5, k6, k7, k8, k9, k10, k11⟩ := (hT).cells1; have f1 := (hT).f1; obtain ⟨m0, m1, m2, m3, m4, m5, m6, m7, m8, m9, m10, m11⟩ := (hT).cells2; have f2 := (hT).f2; clear hc hf; have HT := Lib.hid hT; clear hT))
    refine bodyPost_ret (v := .tuple #[noneV, .bool false]) (by unfold noneV; simp [results, Tryd.results50, go_sem, *]) rfl ⟨by rw [HQ.out]; rfl, (by with_reducible (repeat (first | assumption | exact Below.refl _ _ | refine Below.drew ?_ | refine below_drewN ?_ _ | refine Below.alloc ?_ (by first | (simp; done) | omega | (simp; omega)) _ | refine Below.setCell ?_ (by first | (simp; done) | omega | (simp; omega)) _ | refine Below.trans ?_ (Below.mono (by assumption) (by first | (simp; done) | omega | (simp; omega))))))⟩
  clear h1
  rcases hcs with rfl | rfl | rfl | rfl | rfl | rfl
  · have HQ := Lib.hid (show replyOf ⟨a, b, c, d, e, f, x⟩ 0 2 = some (onOf ⟨3, b, c, d, e, f, x⟩) by simp [replyOf, hw, setD])
    have On := fun w => on_any o ⟨3, b, c, d, e, f, x⟩ w
    generalize onOf ⟨3, b, c, d, e, f, x⟩ = z at *
    simp only [sagaV] at On
    clear hw
    go_enter Tryd.func50, Tryd.ntmps50
    go_wp2_with (go_at_call 31; go_must ((with_reducible refine (W _).mono ?_); rintro e w1 ⟨rfl, hb⟩; obtain ⟨hc, hf⟩ := bcell hb; have hz := hb.size; (try simp at hz); (try have hzT := Nat.lt_of_succ_le hz); have hzA : w.heap.size < w1.heap.size := (by omega); have hzB : w.heap.size + 1 < w1.heap.size := (by omega); have hzA2 := Nat.le_of_lt hzA; have hzB2 := Nat.le_of_lt hzB; have hT := Two.of hb; obtain ⟨k0, k1, k2, k3, k4, k5, k6, k7, k8, k9, k10, k11⟩ := (hT).cells1; have f1 := (hT).f1; obtain ⟨m0, m1, m2, m3, m4, m5, m6, m7, m8, m9, m10, m11⟩ := (hT).cells2; have f2 := (hT).f2; clear hc hf; have HT := Lib.hid hT; clear hT))
    go_wp2_with (go_at_call 78; go_must ((with_reducible refine (On _).mono ?_); rintro e w2 ⟨rfl, hb2⟩; clear k0 k1 k2 k3 k4 k5 k6 k7 k8 k9 k10 k11 f1; clear m0 m1 m2 m3 m4 m5 m6 m7 m8 m9 m10 m11 f2; have hT2 := (HT.out.set (k := 5) (by simp) (.int .i64 3)).below hb2; obtain ⟨m0, m1, m2, m3, m4, m5, m6, m7, m8, m9, m10, m11⟩ := (hT2).cells2; have f2 := (hT2).f2; have hW2 := Lib.hid (show Below w.heap.size w w2 from (Below.setCell (Below.trans (((Below.refl _ _).alloc (Nat.le_refl _) _).alloc (by simp) _) (hb.mono (by simp; omega))) (Nat.le_refl _) _).trans (hb2.mono (by simp; omega))); clear hT2 hb2 hb))
    refine bodyPost_ret (v := .tuple #[sagaV o z, .bool true]) (by unfold sagaV; simp [results, Tryd.results50, go_sem, *]) rfl ⟨by rw [HQ.out]; rfl, ?_⟩
    have hW2 := hW2.out
    (with_reducible repeat (first | assumption | refine Below.setCell ?_ (by first | exact Nat.le_refl _ | omega | (simp; done) | (simp; omega)) _))
  · have HQ := Lib.hid (show replyOf ⟨a, b, c, d, e, f, x⟩ 1 2 = some (onOf ⟨a, 3, c, d, e, f, x⟩) by simp [replyOf, hw, setD])
    have On := fun w => on_any o ⟨a, 3, c, d, e, f, x⟩ w
    generalize onOf ⟨a, 3, c, d, e, f, x⟩ = z at *
    simp only [sagaV] at On
    clear hw
    go_enter Tryd.func50, Tryd.ntmps50
    go_wp2_with (go_at_call 31; go_must ((with_reducible refine (W _).mono ?_); rintro e w1 ⟨rfl, hb⟩; obtain ⟨hc, hf⟩ := bcell hb; have hz := hb.size; (try simp at hz); (try have hzT := Nat.lt_of_succ_le hz); have hzA : w.heap.size < w1.heap.size := (by omega); have hzB : w.heap.size + 1 < w1.heap.size := (by omega); have hzA2 := Nat.le_of_lt hzA; have hzB2 := Nat.le_of_lt hzB; have hT := Two.of hb; obtain ⟨k0, k1, k2, k3, k4, k5, k6, k7, k8, k9, k10, k11⟩ := (hT).cells1; have f1 := (hT).f1; obtain ⟨m0, m1, m2, m3, m4, m5, m6, m7, m8, m9, m10, m11⟩ := (hT).cells2; have f2 := (hT).f2; clear hc hf; have HT := Lib.hid hT; clear hT))
    go_wp2_with (go_at_call 78; go_must ((with_reducible refine (On _).mono ?_); rintro e w2 ⟨rfl, hb2⟩; clear k0 k1 k2 k3 k4 k5 k6 k7 k8 k9 k10 k11 f1; clear m0 m1 m2 m3 m4 m5 m6 m7 m8 m9 m10 m11 f2; have hT2 := (HT.out.set (k := 6) (by simp) (.int .i64 3)).below hb2; obtain ⟨m0, m1, m2, m3, m4, m5, m6, m7, m8, m9, m10, m11⟩ := (hT2).cells2; have f2 := (hT2).f2; have hW2 := Lib.hid (show Below w.heap.size w w2 from (Below.setCell (Below.trans (((Below.refl _ _).alloc (Nat.le_refl _) _).alloc (by simp) _) (hb.mono (by simp; omega))) (Nat.le_refl _) _).trans (hb2.mono (by simp; omega))); clear hT2 hb2 hb))
    refine bodyPost_ret (v := .tuple #[sagaV o z, .bool true]) (by unfold sagaV; simp [results, Tryd.results50, go_sem, *]) rfl ⟨by rw [HQ.out]; rfl, ?_⟩
    have hW2 := hW2.out
    (with_reducible repeat (first | assumption | refine Below.setCell ?_ (by first | exact Nat.le_refl _ | omega | (simp; done) | (simp; omega)) _))
  · have HQ := Lib.hid (show replyOf ⟨a, b, c, d, e, f, x⟩ 2 2 = some (onOf ⟨a, b, 3, d, e, f, x⟩) by simp [replyOf, hw, setD])
    have On := fun w => on_any o ⟨a, b, 3, d, e, f, x⟩ w
    generalize onOf ⟨a, b, 3, d, e, f, x⟩ = z at *
    simp only [sagaV] at On
    clear hw
    go_enter Tryd.func50, Tryd.ntmps50
    go_wp2_with (go_at_call 31; go_must ((with_reducible refine (W _).mono ?_); rintro e w1 ⟨rfl, hb⟩; obtain ⟨hc, hf⟩ := bcell hb; have hz := hb.size; (try simp at hz); (try have hzT := Nat.lt_of_succ_le hz); have hzA : w.heap.size < w1.heap.size := (by omega); have hzB : w.heap.size + 1 < w1.heap.size := (by omega); have hzA2 := Nat.le_of_lt hzA; have hzB2 := Nat.le_of_lt hzB; have hT := Two.of hb; obtain ⟨k0, k1, k2, k3, k4, k5, k6, k7, k8, k9, k10, k11⟩ := (hT).cells1; have f1 := (hT).f1; obtain ⟨m0, m1, m2, m3, m4, m5, m6, m7, m8, m9, m10, m11⟩ := (hT).cells2; have f2 := (hT).f2; clear hc hf; have HT := Lib.hid hT; clear hT))
    go_wp2_with (go_at_call 78; go_must ((with_reducible refine (On _).mono ?_); rintro e w2 ⟨rfl, hb2⟩; clear k0 k1 k2 k3 k4 k5 k6 k7 k8 k9 k10 k11 f1; clear m0 m1 m2 m3 m4 m5 m6 m7 m8 m9 m10 m11 f2; have hT2 := (HT.out.set (k := 7) (by simp) (.int .i64 3)).below hb2; obtain ⟨m0, m1, m2, m3, m4, m5, m6, m7, m8, m9, m10, m11⟩ := (hT2).cells2; have f2 := (hT2).f2; have hW2 := Lib.hid (show Below w.heap.size w w2 from (Below.setCell (Below.trans (((Below.refl _ _).alloc (Nat.le_refl _) _).alloc (by simp) _) (hb.mono (by simp; omega))) (Nat.le_refl _) _).trans (hb2.mono (by simp; omega))); clear hT2 hb2 hb))
    refine bodyPost_ret (v := .tuple #[sagaV o z, .bool true]) (by unfold sagaV; simp [results, Tryd.results50, go_sem, *]) rfl ⟨by rw [HQ.out]; rfl, ?_⟩
    have hW2 := hW2.out
    (with_reducible repeat (first | assumption | refine Below.setCell ?_ (by first | exact Nat.le_refl _ | omega | (simp; done) | (simp; omega)) _))
  · omega
  · omega
  · omega
end Go.Proofs.YtlfphfklcifgpaaDoor

/-
  What a saga becomes by a reply, by walking both texts; conditions: none. (Printed by wip/mksaga.py.)
  What a saga becomes by being cancelled, by walking both texts; conditions: none. (Printed by wip/mksaga.py.)
  A saga's net, by walking the program's text; conditions: none.
  A core's Apply, by walking the program's text: placing an order; conditions: names that fit memory, int64 numbers.
  A core's Apply: an order is cancelled, by walking the program's text; conditions: int64 numbers.
  sum 7c5499bb7c82d33b52cf6cccffeaa45458b4bd0b
-/
import Derived.Test.YtibabfedpdoofaaDoorPt8
namespace Go.Proofs.YtibabfedpdoofaaDoor
open Go.RowKit Go.Own

set_option maxHeartbeats 8000000 in
set_option maxRecDepth 100000 in
theorem reply_any (o : OrdS) (s : D6) (deed code : Int) (w : World) : Calls Tryd.prog 48 #[sagaV o s, .int .i64 deed, .int .i64 code] w fun e w' => e = .returned (replyV o (replyOf s deed code)) ∧ Below w.heap.size w w' := by
  have W := fun w => waits_any o s w
  have hcs := waitsOf_cases s
  obtain ⟨a, b, c, d, e, f, x⟩ := s
  rw [(show sagaV o ⟨a, b, c, d, e, f, x⟩ = .agg #[.int .i64 o.id, .string ⟨o.ref.toArray⟩, .string ⟨o.sku.toArray⟩, .int .i64 o.qty, .int .i64 o.amt, .int .i64 a, .int .i64 b, .int .i64 c, .int .i64 d, .int .i64 e, .int .i64 f, .bool x] from rfl)] at W ⊢
  generalize hw : waitsOf ⟨a, b, c, d, e, f, x⟩ = p at *
  obtain ⟨n, v⟩ := p
  simp only at W hcs
  rcases hcs with ⟨rfl, rfl⟩ | ⟨rfl, hcs⟩
  · have HQ := Lib.hid (show replyOf ⟨a, b, c, d, e, f, x⟩ deed code = none by simp [replyOf, hw])
    clear hw
    go_enter Tryd.func48, Tryd.ntmps48
    go_wp2_with (go_at_call 17; go_must ((with_reducible refine (W _).mono ?_); rintro e w1 ⟨rfl, hb⟩; obtain ⟨hc, hf⟩ := bcell hb; have hz := hb.size; (try simp at hz); (try have hzT := Nat.lt_of_succ_le hz); have hzA : w.heap.size < w1.heap.size := (by omega); have hzB : w.heap.size + 1 < w1.heap.size := (by omega); have hzA2 := Nat.le_of_lt hzA; have hzB2 := Nat.le_of_lt hzB; have hT := Two.of hb; obtain ⟨k0, k1, k2, k3, k4, k5, k6, k7, k8, k9, k10, k11⟩ := (hT).cells1; have f1 := (hT).f1; obtain ⟨m0, m1, m2, m3, m4, m5, m6, m7, m8, m9, m10, m11⟩ := (hT).cells2; have f2 := (hT).f2; clear hc hf; have HT := Lib.hid hT; clear hT))
    refine bodyPost_ret (v := .tuple #[noneV, .bool false]) (by unfold noneV; simp [results, Tryd.results48, go_sem, *]) rfl ⟨by rw [HQ.out]; rfl, (by with_reducible (repeat (first | assumption | exact Below.refl _ _ | refine Below.drew ?_ | refine below_drewN ?_ _ | refine Below.alloc ?_ (by first | (simp; done) | omega | (simp; omega)) _ | refine Below.setCell ?_ (by first | (simp; done) | omega | (simp; omega)) _ | refine Below.trans ?_ (Below.mono (by assumption) (by first | (simp; done) | omega | (simp; omega))))))⟩
  by_cases hd : n = deed
  rotate_left
  · have HQ := Lib.hid (show replyOf ⟨a, b, c, d, e, f, x⟩ deed code = none by simp [replyOf, hw, hd])
    have hdn : (n != deed) = true := by simpa using hd
    clear hd hw hcs
    go_enter Tryd.func48, Tryd.ntmps48
    go_wp2_with (go_at_call 17; go_must ((with_reducible refine (W _).mono ?_); rintro e w1 ⟨rfl, hb⟩; obtain ⟨hc, hf⟩ := bcell hb; have hz := hb.size; (try simp at hz); (try have hzT := Nat.lt_of_succ_le hz); have hzA : w.heap.size < w1.heap.size := (by omega); have hzB : w.heap.size + 1 < w1.heap.size := (by omega); have hzA2 := Nat.le_of_lt hzA; have hzB2 := Nat.le_of_lt hzB; have hT := Two.of hb; obtain ⟨k0, k1, k2, k3, k4, k5, k6, k7, k8, k9, k10, k11⟩ := (hT).cells1; have f1 := (hT).f1; obtain ⟨m0, m1, m2, m3, m4, m5, m6, m7, m8, m9, m10, m11⟩ := (hT).cells2; have f2 := (hT).f2; clear hc hf; have HT := Lib.hid hT; clear hT))
    refine bodyPost_ret (v := .tuple #[noneV, .bool false]) (by unfold noneV; simp [results, Tryd.results48, go_sem, *]) rfl ⟨by rw [HQ.out]; rfl, (by with_reducible (repeat (first | assumption | exact Below.refl _ _ | refine Below.drew ?_ | refine below_drewN ?_ _ | refine Below.alloc ?_ (by first | (simp; done) | omega | (simp; omega)) _ | refine Below.setCell ?_ (by first | (simp; done) | omega | (simp; omega)) _ | refine Below.trans ?_ (Below.mono (by assumption) (by first | (simp; done) | omega | (simp; omega))))))⟩
  subst hd
  by_cases h1 : code = 1
  · subst h1
    rcases hcs with rfl | rfl | rfl | rfl | rfl | rfl
    · have HQ := Lib.hid (show replyOf ⟨a, b, c, d, e, f, x⟩ 0 1 = some (onOf ⟨2, b, c, d, e, f, x⟩) by simp [replyOf, hw, setD])
      have On := fun w => on_any o ⟨2, b, c, d, e, f, x⟩ w
      generalize onOf ⟨2, b, c, d, e, f, x⟩ = z at *
      simp only [sagaV] at On
      clear hw
      go_enter Tryd.func48, Tryd.ntmps48
      go_wp2_with (go_at_call 17; go_must ((with_reducible refine (W _).mono ?_); rintro e w1 ⟨rfl, hb⟩; obtain ⟨hc, hf⟩ := bcell hb; have hz := hb.size; (try simp at hz); (try have hzT := Nat.lt_of_succ_le hz); have hzA : w.heap.size < w1.heap.size := (by omega); have hzB : w.heap.size + 1 < w1.heap.size := (by omega); have hzA2 := Nat.le_of_lt hzA; have hzB2 := Nat.le_of_lt hzB; have hT := Two.of hb; obtain ⟨k0, k1, k2, k3, k4, k5, k6, k7, k8, k9, k10, k11⟩ := (hT).cells1; have f1 := (hT).f1; obtain ⟨m0, m1, m2, m3, m4, m5, m6, m7, m8, m9, m10, m11⟩ := (hT).cells2; have f2 := (hT).f2; clear hc hf; have HT := Lib.hid hT; clear hT))
      go_wp2_with (go_at_call 58; go_must ((with_reducible refine (On _).mono ?_); rintro e w2 ⟨rfl, hb2⟩; clear k0 k1 k2 k3 k4 k5 k6 k7 k8 k9 k10 k11 f1; clear m0 m1 m2 m3 m4 m5 m6 m7 m8 m9 m10 m11 f2; have hT2 := (HT.out.set (k := 5) (by simp) (.int .i64 2)).below hb2; obtain ⟨m0, m1, m2, m3, m4, m5, m6, m7, m8, m9, m10, m11⟩ := (hT2).cells2; have f2 := (hT2).f2; have hW2 := Lib.hid (show Below w.heap.size w w2 from (Below.setCell (Below.trans (((Below.refl _ _).alloc (Nat.le_refl _) _).alloc (by simp) _) (hb.mono (by simp; omega))) (Nat.le_refl _) _).trans (hb2.mono (by simp; omega))); clear hT2 hb2 hb))
      refine bodyPost_ret (v := .tuple #[sagaV o z, .bool true]) (by unfold sagaV; simp [results, Tryd.results48, go_sem, *]) rfl ⟨by rw [HQ.out]; rfl, ?_⟩
      have hW2 := hW2.out
      (with_reducible repeat (first | assumption | refine Below.setCell ?_ (by first | exact Nat.le_refl _ | omega | (simp; done) | (simp; omega)) _))
    · have HQ := Lib.hid (show replyOf ⟨a, b, c, d, e, f, x⟩ 1 1 = some (onOf ⟨a, 2, c, d, e, f, x⟩) by simp [replyOf, hw, setD])
      have On := fun w => on_any o ⟨a, 2, c, d, e, f, x⟩ w
      generalize onOf ⟨a, 2, c, d, e, f, x⟩ = z at *
      simp only [sagaV] at On
      clear hw
      go_enter Tryd.func48, Tryd.ntmps48
      go_wp2_with (go_at_call 17; go_must ((with_reducible refine (W _).mono ?_); rintro e w1 ⟨rfl, hb⟩; obtain ⟨hc, hf⟩ := bcell hb; have hz := hb.size; (try simp at hz); (try have hzT := Nat.lt_of_succ_le hz); have hzA : w.heap.size < w1.heap.size := (by omega); have hzB : w.heap.size + 1 < w1.heap.size := (by omega); have hzA2 := Nat.le_of_lt hzA; have hzB2 := Nat.le_of_lt hzB; have hT := Two.of hb; obtain ⟨k0, k1, k2, k3, k4, k5, k6, k7, k8, k9, k10, k11⟩ := (hT).cells1; have f1 := (hT).f1; obtain ⟨m0, m1, m2, m3, m4, m5, m6, m7, m8, m9, m10, m11⟩ := (hT).cells2; have f2 := (hT).f2; clear hc hf; have HT := Lib.hid hT; clear hT))
      go_wp2_with (go_at_call 58; go_must ((with_reducible refine (On _).mono ?_); rintro e w2 ⟨rfl, hb2⟩; clear k0 k1 k2 k3 k4 k5 k6 k7 k8 k9 k10 k11 f1; clear m0 m1 m2 m3 m4 m5 m6 m7 m8 m9 m10 m11 f2; have hT2 := (HT.out.set (k := 6) (by simp) (.int .i64 2)).below hb2; obtain ⟨m0, m1, m2, m3, m4, m5, m6, m7, m8, m9, m10, m11⟩ := (hT2).cells2; have f2 := (hT2).f2; have hW2 := Lib.hid (show Below w.heap.size w w2 from (Below.setCell (Below.trans (((Below.refl _ _).alloc (Nat.le_refl _) _).alloc (by simp) _) (hb.mono (by simp; omega))) (Nat.le_refl _) _).trans (hb2.mono (by simp; omega))); clear hT2 hb2 hb))
      refine bodyPost_ret (v := .tuple #[sagaV o z, .bool true]) (by unfold sagaV; simp [results, Tryd.results48, go_sem, *]) rfl ⟨by rw [HQ.out]; rfl, ?_⟩
      have hW2 := hW2.out
      (with_reducible repeat (first | assumption | refine Below.setCell ?_ (by first | exact Nat.le_refl _ | omega | (simp; done) | (simp; omega)) _))
    · have HQ := Lib.hid (show replyOf ⟨a, b, c, d, e, f, x⟩ 2 1 = some (onOf ⟨a, b, 2, d, e, f, x⟩) by simp [replyOf, hw, setD])
      have On := fun w => on_any o ⟨a, b, 2, d, e, f, x⟩ w
      generalize onOf ⟨a, b, 2, d, e, f, x⟩ = z at *
      simp only [sagaV] at On
      clear hw
      go_enter Tryd.func48, Tryd.ntmps48
      go_wp2_with (go_at_call 17; go_must ((with_reducible refine (W _).mono ?_); rintro e w1 ⟨rfl, hb⟩; obtain ⟨hc, hf⟩ := bcell hb; have hz := hb.size; (try simp at hz); (try have hzT := Nat.lt_of_succ_le hz); have hzA : w.heap.size < w1.heap.size := (by omega); have hzB : w.heap.size + 1 < w1.heap.size := (by omega); have hzA2 := Nat.le_of_lt hzA; have hzB2 := Nat.le_of_lt hzB; have hT := Two.of hb; obtain ⟨k0, k1, k2, k3, k4, k5, k6, k7, k8, k9, k10, k11⟩ := (hT).cells1; have f1 := (hT).f1; obtain ⟨m0, m1, m2, m3, m4, m5, m6, m7, m8, m9, m10, m11⟩ := (hT).cells2; have f2 := (hT).f2; clear hc hf; have HT := Lib.hid hT; clear hT))
      go_wp2_with (go_at_call 58; go_must ((with_reducible refine (On _).mono ?_); rintro e w2 ⟨rfl, hb2⟩; clear k0 k1 k2 k3 k4 k5 k6 k7 k8 k9 k10 k11 f1; clear m0 m1 m2 m3 m4 m5 m6 m7 m8 m9 m10 m11 f2; have hT2 := (HT.out.set (k := 7) (by simp) (.int .i64 2)).below hb2; obtain ⟨m0, m1, m2, m3, m4, m5, m6, m7, m8, m9, m10, m11⟩ := (hT2).cells2; have f2 := (hT2).f2; have hW2 := Lib.hid (show Below w.heap.size w w2 from (Below.setCell (Below.trans (((Below.refl _ _).alloc (Nat.le_refl _) _).alloc (by simp) _) (hb.mono (by simp; omega))) (Nat.le_refl _) _).trans (hb2.mono (by simp; omega))); clear hT2 hb2 hb))
      refine bodyPost_ret (v := .tuple #[sagaV o z, .bool true]) (by unfold sagaV; simp [results, Tryd.results48, go_sem, *]) rfl ⟨by rw [HQ.out]; rfl, ?_⟩
      have hW2 := hW2.out
      (with_reducible repeat (first | assumption | refine Below.setCell ?_ (by first | exact Nat.le_refl _ | omega | (simp; done) | (simp; omega)) _))
    · have HQ := Lib.hid (show replyOf ⟨a, b, c, d, e, f, x⟩ 3 1 = some (onOf ⟨a, b, c, 2, e, f, x⟩) by simp [replyOf, hw, setD])
      have On := fun w => on_any o ⟨a, b, c, 2, e, f, x⟩ w
      generalize onOf ⟨a, b, c, 2, e, f, x⟩ = z at *
      simp only [sagaV] at On
      clear hw
      go_enter Tryd.func48, Tryd.ntmps48
      go_wp2_with (go_at_call 17; go_must ((with_reducible refine (W _).mono ?_); rintro e w1 ⟨rfl, hb⟩; obtain ⟨hc, hf⟩ := bcell hb; have hz := hb.size; (try simp at hz); (try have hzT := Nat.lt_of_succ_le hz); have hzA : w.heap.size < w1.heap.size := (by omega); have hzB : w.heap.size + 1 < w1.heap.size := (by omega); have hzA2 := Nat.le_of_lt hzA; have hzB2 := Nat.le_of_lt hzB; have hT := Two.of hb; obtain ⟨k0, k1, k2, k3, k4, k5, k6, k7, k8, k9, k10, k11⟩ := (hT).cells1; have f1 := (hT).f1; obtain ⟨m0, m1, m2, m3, m4, m5, m6, m7, m8, m9, m10, m11⟩ := (hT).cells2; have f2 := (hT).f2; clear hc hf; have HT := Lib.hid hT; clear hT))
      go_wp2_with (go_at_call 58; go_must ((with_reducible refine (On _).mono ?_); rintro e w2 ⟨rfl, hb2⟩; clear k0 k1 k2 k3 k4 k5 k6 k7 k8 k9 k10 k11 f1; clear m0 m1 m2 m3 m4 m5 m6 m7 m8 m9 m10 m11 f2; have hT2 := (HT.out.set (k := 8) (by simp) (.int .i64 2)).below hb2; obtain ⟨m0, m1, m2, m3, m4, m5, m6, m7, m8, m9, m10, m11⟩ := (hT2).cells2; have f2 := (hT2).f2; have hW2 := Lib.hid (show Below w.heap.size w w2 from (Below.setCell (Below.trans (((Below.refl _ _).alloc (Nat.le_refl _) _).alloc (by simp) _) (hb.mono (by simp; omega))) (Nat.le_refl _) _).trans (hb2.mono (by simp; omega))); clear hT2 hb2 hb))
      refine bodyPost_ret (v := .tuple #[sagaV o z, .bool true]) (by unfold sagaV; simp [results, Tryd.results48, go_sem, *]) rfl ⟨by rw [HQ.out]; rfl, ?_⟩
      have hW2 := hW2.out
      (with_reducible repeat (first | assumption | refine Below.setCell ?_ (by first | exact Nat.le_refl _ | omega | (simp; done) | (simp; omega)) _))
    · have HQ := Lib.hid (show replyOf ⟨a, b, c, d, e, f, x⟩ 4 1 = some (onOf ⟨a, b, c, d, 2, f, x⟩) by simp [replyOf, hw, setD])
      have On := fun w => on_any o ⟨a, b, c, d, 2, f, x⟩ w
      generalize onOf ⟨a, b, c, d, 2, f, x⟩ = z at *
      simp only [sagaV] at On
      clear hw
      go_enter Tryd.func48, Tryd.ntmps48
      go_wp2_with (go_at_call 17; go_must ((with_reducible refine (W _).mono ?_); rintro e w1 ⟨rfl, hb⟩; obtain ⟨hc, hf⟩ := bcell hb; have hz := hb.size; (try simp at hz); (try have hzT := Nat.lt_of_succ_le hz); have hzA : w.heap.size < w1.heap.size := (by omega); have hzB : w.heap.size + 1 < w1.heap.size := (by omega); have hzA2 := Nat.le_of_lt hzA; have hzB2 := Nat.le_of_lt hzB; have hT := Two.of hb; obtain ⟨k0, k1, k2, k3, k4, k5, k6, k7, k8, k9, k10, k11⟩ := (hT).cells1; have f1 := (hT).f1; obtain ⟨m0, m1, m2, m3, m4, m5, m6, m7, m8, m9, m10, m11⟩ := (hT).cells2; have f2 := (hT).f2; clear hc hf; have HT := Lib.hid hT; clear hT))
      go_wp2_with (go_at_call 58; go_must ((with_reducible refine (On _).mono ?_); rintro e w2 ⟨rfl, hb2⟩; clear k0 k1 k2 k3 k4 k5 k6 k7 k8 k9 k10 k11 f1; clear m0 m1 m2 m3 m4 m5 m6 m7 m8 m9 m10 m11 f2; have hT2 := (HT.out.set (k := 9) (by simp) (.int .i64 2)).below hb2; obtain ⟨m0, m1, m2, m3, m4, m5, m6, m7, m8, m9, m10, m11⟩ := (hT2).cells2; have f2 := (hT2).f2; have hW2 := Lib.hid (show Below w.heap.size w w2 from (Below.setCell (Below.trans (((Below.refl _ _).alloc (Nat.le_refl _) _).alloc (by simp) _) (hb.mono (by simp; omega))) (Nat.le_refl _) _).trans (hb2.mono (by simp; omega))); clear hT2 hb2 hb))
      refine bodyPost_ret (v := .tuple #[sagaV o z, .bool true]) (by unfold sagaV; simp [results, Tryd.results48, go_sem, *]) rfl ⟨by rw [HQ.out]; rfl, ?_⟩
      have hW2 := hW2.out
      (with_reducible repeat (first | assumption | refine Below.setCell ?_ (by first | exact Nat.le_refl _ | omega | (simp; done) | (simp; omega)) _))
    · have HQ := Lib.hid (show replyOf ⟨a, b, c, d, e, f, x⟩ 5 1 = some (onOf ⟨a, b, c, d, e, 2, x⟩) by simp [replyOf, hw, setD])
      have On := fun w => on_any o ⟨a, b, c, d, e, 2, x⟩ w
      generalize onOf ⟨a, b, c, d, e, 2, x⟩ = z at *
      simp only [sagaV] at On
      clear hw
      go_enter Tryd.func48, Tryd.ntmps48
      go_wp2_with (go_at_call 17; go_must ((with_reducible refine (W _).mono ?_); rintro e w1 ⟨rfl, hb⟩; obtain ⟨hc, hf⟩ := bcell hb; have hz := hb.size; (try simp at hz); (try have hzT := Nat.lt_of_succ_le hz); have hzA : w.heap.size < w1.heap.size := (by omega); have hzB : w.heap.size + 1 < w1.heap.size := (by omega); have hzA2 := Nat.le_of_lt hzA; have hzB2 := Nat.le_of_lt hzB; have hT := Two.of hb; obtain ⟨k0, k1, k2, k3, k4, k5, k6, k7, k8, k9, k10, k11⟩ := (hT).cells1; have f1 := (hT).f1; obtain ⟨m0, m1, m2, m3, m4, m5, m6, m7, m8, m9, m10, m11⟩ := (hT).cells2; have f2 := (hT).f2; clear hc hf; have HT := Lib.hid hT; clear hT))
      go_wp2_with (go_at_call 58; go_must ((with_reducible refine (On _).mono ?_); rintro e w2 ⟨rfl, hb2⟩; clear k0 k1 k2 k3 k4 k5 k6 k7 k8 k9 k10 k11 f1; clear m0 m1 m2 m3 m4 m5 m6 m7 m8 m9 m10 m11 f2; have hT2 := (HT.out.set (k := 10) (by simp) (.int .i64 2)).below hb2; obtain ⟨m0, m1, m2, m3, m4, m5, m6, m7, m8, m9, m10, m11⟩ := (hT2).cells2; have f2 := (hT2).f2; have hW2 := Lib.hid (show Below w.heap.size w w2 from (Below.setCell (Below.trans (((Below.refl _ _).alloc (Nat.le_refl _) _).alloc (by simp) _) (hb.mono (by simp; omega))) (Nat.le_refl _) _).trans (hb2.mono (by simp; omega))); clear hT2 hb2 hb))
      refine bodyPost_ret (v := .tuple #[sagaV o z, .bool true]) (by unfold sagaV; simp [results, Tryd.results48, go_sem, *]) rfl ⟨by rw [HQ.out]; rfl, ?_⟩
      have hW2 := hW2.out
      (with_reducible repeat (first | assumption | refine Below.setCell ?_ (by first | exact Nat.le_refl _ | omega | (simp; done) | (simp; omega)) _))
  by_cases h2 : code = 2
  rotate_left
  · have HQ := Lib.hid (show replyOf ⟨a, b, c, d, e, f, x⟩ n code = none by simp [replyOf, hw, h1, h2])
    have h1n : (code != 1) = true := by simpa using h1
    have h2n : (code != 2) = true := by simpa using h2
    have h1e : (code == 1) = false := by simpa using h1
    have h2e : (code == 2) = false := by simpa using h2
    clear h1 h2 hw hcs
    go_enter Tryd.func48, Tryd.ntmps48
    go_wp2_with (go_at_call 17; go_must ((with_reducible refine (W _).mono ?_); rintro e w1 ⟨rfl, hb⟩; obtain ⟨hc, hf⟩ := bcell hb; have hz := hb.size; (try simp at hz); (try have hzT := Nat.lt_of_succ_le hz); have hzA : w.heap.size < w1.heap.size := (by omega); have hzB : w.heap.size + 1 < w1.heap.size := (by omega); have hzA2 := Nat.le_of_lt hzA; have hzB2 := Nat.le_of_lt hzB; have hT := Two.of hb; obtain ⟨k0, k1, k2, k3, k4, k5, k6, k7, k8, k9, k10, k11⟩ := (hT).cells1; have f1 := (hT).f1; obtain ⟨m0, m1, m2, m3, m4, m5, m6, m7, m8, m9, m10, m11⟩ := (hT).cells2; have f2 := (hT).f2; clear hc hf; have HT := Lib.hid hT; clear hT))
    refine bodyPost_ret (v := .tuple #[noneV, .bool false]) (by unfold noneV; simp [results, Tryd.results48, go_sem, *]) rfl ⟨by rw [HQ.out]; rfl, (by with_reducible (repeat (first | assumption | exact Below.refl _ _ | refine Below.drew ?_ | refine below_drewN ?_ _ | refine Below.alloc ?_ (by first | (simp; done) | omega | (simp; omega)) _ | refine Below.setCell ?_ (by first | (simp; done) | omega | (simp; omega)) _ | refine Below.trans ?_ (Below.mono (by assumption) (by first | (simp; done) | omega | (simp; omega))))))⟩
  subst h2
  by_cases h3 : n ≤ 2
  rotate_left
  · have HQ := Lib.hid (show replyOf ⟨a, b, c, d, e, f, x⟩ n 2 = none by simp [replyOf, hw, h3])
    have h3n : 2 < n := by omega
    clear h3 hw hcs h1
    go_enter Tryd.func48, Tryd.ntmps48
    go_wp2_with (go_at_call 17; go_must ((with_reducible refine (W _).mono ?_); rintro e w1 ⟨rfl, hb⟩; obtain ⟨hc, hf⟩ := bcell hb; have hz := hb.size; (try simp at hz); (try have hzT := Nat.lt_of_succ_le hz); have hzA : w.heap.size < w1.heap.size := (by omega); have hzB : w.heap.size + 1 < w1.heap.size := (by omega); have hzA2 := Nat.le_of_lt hzA; have hzB2 := Nat.le_of_lt hzB; have hT := Two.of hb; obtain ⟨k0, k1, k2, k3, k4, k5, k6, k7, k8, k9, k10, k11⟩ := (hT).cells1; have f1 := (hT).f1; obtain ⟨m0, m1, m2, m3, m4, m5, m6, m7, m8, m9, m10, m11⟩ := (hT).cells2; have f2 := (hT).f2; clear hc hf; have HT := Lib.hid hT; clear hT))
    refine bodyPost_ret (v := .tuple #[noneV, .bool false]) (by unfold noneV; simp [results, Tryd.results48, go_sem, *]) rfl ⟨by rw [HQ.out]; rfl, (by with_reducible (repeat (first | assumption | exact Below.refl _ _ | refine Below.drew ?_ | refine below_drewN ?_ _ | refine Below.alloc ?_ (by first | (simp; done) | omega | (simp; omega)) _ | refine Below.setCell ?_ (by first | (simp; done) | omega | (simp; omega)) _ | refine Below.trans ?_ (Below.mono (by assumption) (by first | (simp; done) | omega | (simp; omega))))))⟩
  clear h1
  rcases hcs with rfl | rfl | rfl | rfl | rfl | rfl
  · have HQ := Lib.hid (show replyOf ⟨a, b, c, d, e, f, x⟩ 0 2 = some (onOf ⟨3, b, c, d, e, f, x⟩) by simp [replyOf, hw, setD])
    have On := fun w => on_any o ⟨3, b, c, d, e, f, x⟩ w
    generalize onOf ⟨3, b, c, d, e, f, x⟩ = z at *
    simp only [sagaV] at On
    clear hw
    go_enter Tryd.func48, Tryd.ntmps48
    go_wp2_with (go_at_call 17; go_must ((with_reducible refine (W _).mono ?_); rintro e w1 ⟨rfl, hb⟩; obtain ⟨hc, hf⟩ := bcell hb; have hz := hb.size; (try simp at hz); (try have hzT := Nat.lt_of_succ_le hz); have hzA : w.heap.size < w1.heap.size := (by omega); have hzB : w.heap.size + 1 < w1.heap.size := (by omega); have hzA2 := Nat.le_of_lt hzA; have hzB2 := Nat.le_of_lt hzB; have hT := Two.of hb; obtain ⟨k0, k1, k2, k3, k4, k5, k6, k7, k8, k9, k10, k11⟩ := (hT).cells1; have f1 := (hT).f1; obtain ⟨m0, m1, m2, m3, m4, m5, m6, m7, m8, m9, m10, m11⟩ := (hT).cells2; have f2 := (hT).f2; clear hc hf; have HT := Lib.hid hT; clear hT))
    go_wp2_with (go_at_call 58; go_must ((with_reducible refine (On _).mono ?_); rintro e w2 ⟨rfl, hb2⟩; clear k0 k1 k2 k3 k4 k5 k6 k7 k8 k9 k10 k11 f1; clear m0 m1 m2 m3 m4 m5 m6 m7 m8 m9 m10 m11 f2; have hT2 := (HT.out.set (k := 5) (by simp) (.int .i64 3)).below hb2; obtain ⟨m0, m1, m2, m3, m4, m5, m6, m7, m8, m9, m10, m11⟩ := (hT2).cells2; have f2 := (hT2).f2; have hW2 := Lib.hid (show Below w.heap.size w w2 from (Below.setCell (Below.trans (((Below.refl _ _).alloc (Nat.le_refl _) _).alloc (by simp) _) (hb.mono (by simp; omega))) (Nat.le_refl _) _).trans (hb2.mono (by simp; omega))); clear hT2 hb2 hb))
    refine bodyPost_ret (v := .tuple #[sagaV o z, .bool true]) (by unfold sagaV; simp [results, Tryd.results48, go_sem, *]) rfl ⟨by rw [HQ.out]; rfl, ?_⟩
    have hW2 := hW2.out
    (with_reducible repeat (first | assumption | refine Below.setCell ?_ (by first | exact Nat.le_refl _ | omega | (simp; done) | (simp; omega)) _))
  · have HQ := Lib.hid (show replyOf ⟨a, b, c, d, e, f, x⟩ 1 2 = some (onOf ⟨a, 3, c, d, e, f, x⟩) by simp [replyOf, hw, setD])
    have On := fun w => on_any o ⟨a, 3, c, d, e, f, x⟩ w
    generalize onOf ⟨a, 3, c, d, e, f, x⟩ = z at *
    simp only [sagaV] at On
    clear hw
    go_enter Tryd.func48, Tryd.ntmps48
    go_wp2_with (go_at_call 17; go_must ((with_reducible refine (W _).mono ?_); rintro e w1 ⟨rfl, hb⟩; obtain ⟨hc, hf⟩ := bcell hb; have hz := hb.size; (try simp at hz); (try have hzT := Nat.lt_of_succ_le hz); have hzA : w.heap.size < w1.heap.size := (by omega); have hzB : w.heap.size + 1 < w1.heap.size := (by omega); have hzA2 := Nat.le_of_lt hzA; have hzB2 := Nat.le_of_lt hzB; have hT := Two.of hb; obtain ⟨k0, k1, k2, k3, k4, k5, k6, k7, k8, k9, k10, k11⟩ := (hT).cells1; have f1 := (hT).f1; obtain ⟨m0, m1, m2, m3, m4, m5, m6, m7, m8, m9, m10, m11⟩ := (hT).cells2; have f2 := (hT).f2; clear hc hf; have HT := Lib.hid hT; clear hT))
    go_wp2_with (go_at_call 58; go_must ((with_reducible refine (On _).mono ?_); rintro e w2 ⟨rfl, hb2⟩; clear k0 k1 k2 k3 k4 k5 k6 k7 k8 k9 k10 k11 f1; clear m0 m1 m2 m3 m4 m5 m6 m7 m8 m9 m10 m11 f2; have hT2 := (HT.out.set (k := 6) (by simp) (.int .i64 3)).below hb2; obtain ⟨m0, m1, m2, m3, m4, m5, m6, m7, m8, m9, m10, m11⟩ := (hT2).cells2; have f2 := (hT2).f2; have hW2 := Lib.hid (show Below w.heap.size w w2 from (Below.setCell (Below.trans (((Below.refl _ _).alloc (Nat.le_refl _) _).alloc (by simp) _) (hb.mono (by simp; omega))) (Nat.le_refl _) _).trans (hb2.mono (by simp; omega))); clear hT2 hb2 hb))
    refine bodyPost_ret (v := .tuple #[sagaV o z, .bool true]) (by unfold sagaV; simp [results, Tryd.results48, go_sem, *]) rfl ⟨by rw [HQ.out]; rfl, ?_⟩
    have hW2 := hW2.out
    (with_reducible repeat (first | assumption | refine Below.setCell ?_ (by first | exact Nat.le_refl _ | omega | (simp; done) | (simp; omega)) _))
  · have HQ := Lib.hid (show replyOf ⟨a, b, c, d, e, f, x⟩ 2 2 = some (onOf ⟨a, b, 3, d, e, f, x⟩) by simp [replyOf, hw, setD])
    have On := fun w => on_any o ⟨a, b, 3, d, e, f, x⟩ w
    generalize onOf ⟨a, b, 3, d, e, f, x⟩ = z at *
    simp only [sagaV] at On
    clear hw
    go_enter Tryd.func48, Tryd.ntmps48
    go_wp2_with (go_at_call 17; go_must ((with_reducible refine (W _).mono ?_); rintro e w1 ⟨rfl, hb⟩; obtain ⟨hc, hf⟩ := bcell hb; have hz := hb.size; (try simp at hz); (try have hzT := Nat.lt_of_succ_le hz); have hzA : w.heap.size < w1.heap.size := (by omega); have hzB : w.heap.size + 1 < w1.heap.size := (by omega); have hzA2 := Nat.le_of_lt hzA; have hzB2 := Nat.le_of_lt hzB; have hT := Two.of hb; obtain ⟨k0, k1, k2, k3, k4, k5, k6, k7, k8, k9, k10, k11⟩ := (hT).cells1; have f1 := (hT).f1; obtain ⟨m0, m1, m2, m3, m4, m5, m6, m7, m8, m9, m10, m11⟩ := (hT).cells2; have f2 := (hT).f2; clear hc hf; have HT := Lib.hid hT; clear hT))
    go_wp2_with (go_at_call 58; go_must ((with_reducible refine (On _).mono ?_); rintro e w2 ⟨rfl, hb2⟩; clear k0 k1 k2 k3 k4 k5 k6 k7 k8 k9 k10 k11 f1; clear m0 m1 m2 m3 m4 m5 m6 m7 m8 m9 m10 m11 f2; have hT2 := (HT.out.set (k := 7) (by simp) (.int .i64 3)).below hb2; obtain ⟨m0, m1, m2, m3, m4, m5, m6, m7, m8, m9, m10, m11⟩ := (hT2).cells2; have f2 := (hT2).f2; have hW2 := Lib.hid (show Below w.heap.size w w2 from (Below.setCell (Below.trans (((Below.refl _ _).alloc (Nat.le_refl _) _).alloc (by simp) _) (hb.mono (by simp; omega))) (Nat.le_refl _) _).trans (hb2.mono (by simp; omega))); clear hT2 hb2 hb))
    refine bodyPost_ret (v := .tuple #[sagaV o z, .bool true]) (by unfold sagaV; simp [results, Tryd.results48, go_sem, *]) rfl ⟨by rw [HQ.out]; rfl, ?_⟩
    have hW2 := hW2.out
    (with_reducible repeat (first | assumption | refine Below.setCell ?_ (by first | exact Nat.le_refl _ | omega | (simp; done) | (simp; omega)) _))
  · omega
  · omega
  · omega
end Go.Proofs.YtibabfedpdoofaaDoor
namespace Go.Proofs.YtibabfedpdoofaaDoor
open Go.RowKit Go.Own
theorem stateOf_go (s : D6) (h : stateOf s = 0) : (waitsOf s).2 = true := by
  unfold stateOf at h
  (repeat' split at h) <;> simp_all

set_option maxHeartbeats 8000000 in
set_option maxRecDepth 100000 in
theorem stop_any (o : OrdS) (s : D6) (w : World) : Calls Tryd.prog 47 #[sagaV o s] w fun e w' => e = .returned (stopV o (stopOf s)) ∧ Below w.heap.size w w' := by
  have S := fun w => state_any o s w
  have W := fun w => waits_any o s w
  have hcs := waitsOf_cases s
  have hgo := stateOf_go s
  obtain ⟨a, b, c, d, e, f, x⟩ := s
  rw [(show sagaV o ⟨a, b, c, d, e, f, x⟩ = .agg #[.int .i64 o.id, .string ⟨o.ref.toArray⟩, .string ⟨o.sku.toArray⟩, .int .i64 o.qty, .int .i64 o.amt, .int .i64 a, .int .i64 b, .int .i64 c, .int .i64 d, .int .i64 e, .int .i64 f, .bool x] from rfl)] at S W ⊢
  by_cases hs : stateOf ⟨a, b, c, d, e, f, x⟩ = 0
  rotate_left
  · have HQ := Lib.hid (show stopOf ⟨a, b, c, d, e, f, x⟩ = none by simp [stopOf, hs])
    clear hcs hgo W
    generalize stateOf ⟨a, b, c, d, e, f, x⟩ = q at *
    have hsn : (q != 0) = true := by simpa using hs
    clear hs
    go_enter Tryd.func47, Tryd.ntmps47
    go_wp2_with (go_at_call 19; go_must ((with_reducible refine (S _).mono ?_); rintro e w1 ⟨rfl, hb⟩; obtain ⟨hc, hf⟩ := bcell hb; have hz := hb.size; (try simp at hz); (try have hzT := Nat.lt_of_succ_le hz); have hzA : w.heap.size < w1.heap.size := (by omega); have hzB : w.heap.size + 1 < w1.heap.size := (by omega); have hzA2 := Nat.le_of_lt hzA; have hzB2 := Nat.le_of_lt hzB; have hT := Two.of hb; obtain ⟨k0, k1, k2, k3, k4, k5, k6, k7, k8, k9, k10, k11⟩ := (hT).cells1; have f1 := (hT).f1; obtain ⟨m0, m1, m2, m3, m4, m5, m6, m7, m8, m9, m10, m11⟩ := (hT).cells2; have f2 := (hT).f2; clear hc hf hT))
    refine bodyPost_ret (v := .tuple #[noneV, .int .i64 92]) (by unfold noneV; simp [results, Tryd.results47, go_sem, *]) rfl ⟨by rw [HQ.out]; rfl, (by with_reducible (repeat (first | assumption | exact Below.refl _ _ | refine Below.drew ?_ | refine below_drewN ?_ _ | refine Below.alloc ?_ (by first | (simp; done) | omega | (simp; omega)) _ | refine Below.setCell ?_ (by first | (simp; done) | omega | (simp; omega)) _ | refine Below.trans ?_ (Below.mono (by assumption) (by first | (simp; done) | omega | (simp; omega))))))⟩
  have hv := hgo hs
  clear hgo
  have HS := Lib.hid hs
  rw [hs] at S
  clear hs
  generalize hw : waitsOf ⟨a, b, c, d, e, f, x⟩ = p at *
  obtain ⟨n, v⟩ := p
  simp only at W hcs hv
  subst hv
  rcases hcs with ⟨h0, _⟩ | ⟨_, hcs⟩
  · cases h0
  rcases hcs with rfl | rfl | rfl | rfl | rfl | rfl
  · have HQ := Lib.hid (show stopOf ⟨a, b, c, d, e, f, x⟩ = some (onOf ⟨4, b, c, d, e, f, true⟩) by have h0 := HS.out; simp [stopOf, h0, hw, setD])
    have On := fun w => on_any o ⟨4, b, c, d, e, f, true⟩ w
    generalize onOf ⟨4, b, c, d, e, f, true⟩ = z at *
    simp only [sagaV] at On
    clear hw HS
    go_enter Tryd.func47, Tryd.ntmps47
    go_wp2_with (go_at_call 19; go_must ((with_reducible refine (S _).mono ?_); rintro e w1 ⟨rfl, hb⟩; have hT := Two.of hb; have HB1 := Lib.hid (show Below w.heap.size w w1 from Below.trans (((Below.refl _ _).alloc (Nat.le_refl _) _).alloc (by simp) _) (hb.mono (by simp; omega))); have hz1 := hT.lt; obtain ⟨k0, k1, k2, k3, k4, k5, k6, k7, k8, k9, k10, k11⟩ := (hT).cells1; have f1 := (hT).f1; have HT := Lib.hid hT; clear hT hb))
    go_wp2_with (go_at_call 17; go_must ((with_reducible refine (W _).mono ?_); rintro e w2 ⟨rfl, hb⟩; clear k0 k1 k2 k3 k4 k5 k6 k7 k8 k9 k10 k11 f1; have hT := HT.out.below hb; have HB2 := Lib.hid (HB1.out.trans (hb.mono (by omega))); have hz2 := hT.lt; obtain ⟨k0, k1, k2, k3, k4, k5, k6, k7, k8, k9, k10, k11⟩ := (hT).cells1; have f1 := (hT).f1; have HT2 := Lib.hid hT; clear hT hb))
    go_wp2_with (go_at_call 58; go_must ((with_reducible refine (On _).mono ?_); rintro e w3 ⟨rfl, hb⟩; clear k0 k1 k2 k3 k4 k5 k6 k7 k8 k9 k10 k11 f1; have hT := ((HT2.out.set (k := 5) (by simp) (.int .i64 4)).set (k := 11) (by simp) (.bool true)).below hb; have hW2 := Lib.hid (show Below w.heap.size w w3 from ((HB2.out.setCell (Nat.le_refl _) _).setCell (Nat.le_refl _) _).trans (hb.mono (by simp; omega))); have hz3 := hT.lt; obtain ⟨m0, m1, m2, m3, m4, m5, m6, m7, m8, m9, m10, m11⟩ := (hT).cells2; have f2 := (hT).f2; clear hT hb))
    refine bodyPost_ret (v := .tuple #[sagaV o z, .int .i64 0]) (by unfold sagaV; simp [results, Tryd.results47, go_sem, *]) rfl ⟨by rw [HQ.out]; rfl, ?_⟩
    have hW2 := hW2.out
    (with_reducible repeat (first | assumption | refine Below.setCell ?_ (by first | exact Nat.le_refl _ | omega | (simp; done) | (simp; omega)) _))
  · have HQ := Lib.hid (show stopOf ⟨a, b, c, d, e, f, x⟩ = some (onOf ⟨a, 4, c, d, e, f, true⟩) by have h0 := HS.out; simp [stopOf, h0, hw, setD])
    have On := fun w => on_any o ⟨a, 4, c, d, e, f, true⟩ w
    generalize onOf ⟨a, 4, c, d, e, f, true⟩ = z at *
    simp only [sagaV] at On
    clear hw HS
    go_enter Tryd.func47, Tryd.ntmps47
    go_wp2_with (go_at_call 19; go_must ((with_reducible refine (S _).mono ?_); rintro e w1 ⟨rfl, hb⟩; have hT := Two.of hb; have HB1 := Lib.hid (show Below w.heap.size w w1 from Below.trans (((Below.refl _ _).alloc (Nat.le_refl _) _).alloc (by simp) _) (hb.mono (by simp; omega))); have hz1 := hT.lt; obtain ⟨k0, k1, k2, k3, k4, k5, k6, k7, k8, k9, k10, k11⟩ := (hT).cells1; have f1 := (hT).f1; have HT := Lib.hid hT; clear hT hb))
    go_wp2_with (go_at_call 17; go_must ((with_reducible refine (W _).mono ?_); rintro e w2 ⟨rfl, hb⟩; clear k0 k1 k2 k3 k4 k5 k6 k7 k8 k9 k10 k11 f1; have hT := HT.out.below hb; have HB2 := Lib.hid (HB1.out.trans (hb.mono (by omega))); have hz2 := hT.lt; obtain ⟨k0, k1, k2, k3, k4, k5, k6, k7, k8, k9, k10, k11⟩ := (hT).cells1; have f1 := (hT).f1; have HT2 := Lib.hid hT; clear hT hb))
    go_wp2_with (go_at_call 58; go_must ((with_reducible refine (On _).mono ?_); rintro e w3 ⟨rfl, hb⟩; clear k0 k1 k2 k3 k4 k5 k6 k7 k8 k9 k10 k11 f1; have hT := ((HT2.out.set (k := 6) (by simp) (.int .i64 4)).set (k := 11) (by simp) (.bool true)).below hb; have hW2 := Lib.hid (show Below w.heap.size w w3 from ((HB2.out.setCell (Nat.le_refl _) _).setCell (Nat.le_refl _) _).trans (hb.mono (by simp; omega))); have hz3 := hT.lt; obtain ⟨m0, m1, m2, m3, m4, m5, m6, m7, m8, m9, m10, m11⟩ := (hT).cells2; have f2 := (hT).f2; clear hT hb))
    refine bodyPost_ret (v := .tuple #[sagaV o z, .int .i64 0]) (by unfold sagaV; simp [results, Tryd.results47, go_sem, *]) rfl ⟨by rw [HQ.out]; rfl, ?_⟩
    have hW2 := hW2.out
    (with_reducible repeat (first | assumption | refine Below.setCell ?_ (by first | exact Nat.le_refl _ | omega | (simp; done) | (simp; omega)) _))
  · have HQ := Lib.hid (show stopOf ⟨a, b, c, d, e, f, x⟩ = some (onOf ⟨a, b, 4, d, e, f, true⟩) by have h0 := HS.out; simp [stopOf, h0, hw, setD])
    have On := fun w => on_any o ⟨a, b, 4, d, e, f, true⟩ w
    generalize onOf ⟨a, b, 4, d, e, f, true⟩ = z at *
    simp only [sagaV] at On
    clear hw HS
    go_enter Tryd.func47, Tryd.ntmps47
    go_wp2_with (go_at_call 19; go_must ((with_reducible refine (S _).mono ?_); rintro e w1 ⟨rfl, hb⟩; have hT := Two.of hb; have HB1 := Lib.hid (show Below w.heap.size w w1 from Below.trans (((Below.refl _ _).alloc (Nat.le_refl _) _).alloc (by simp) _) (hb.mono (by simp; omega))); have hz1 := hT.lt; obtain ⟨k0, k1, k2, k3, k4, k5, k6, k7, k8, k9, k10, k11⟩ := (hT).cells1; have f1 := (hT).f1; have HT := Lib.hid hT; clear hT hb))
    go_wp2_with (go_at_call 17; go_must ((with_reducible refine (W _).mono ?_); rintro e w2 ⟨rfl, hb⟩; clear k0 k1 k2 k3 k4 k5 k6 k7 k8 k9 k10 k11 f1; have hT := HT.out.below hb; have HB2 := Lib.hid (HB1.out.trans (hb.mono (by omega))); have hz2 := hT.lt; obtain ⟨k0, k1, k2, k3, k4, k5, k6, k7, k8, k9, k10, k11⟩ := (hT).cells1; have f1 := (hT).f1; have HT2 := Lib.hid hT; clear hT hb))
    go_wp2_with (go_at_call 58; go_must ((with_reducible refine (On _).mono ?_); rintro e w3 ⟨rfl, hb⟩; clear k0 k1 k2 k3 k4 k5 k6 k7 k8 k9 k10 k11 f1; have hT := ((HT2.out.set (k := 7) (by simp) (.int .i64 4)).set (k := 11) (by simp) (.bool true)).below hb; have hW2 := Lib.hid (show Below w.heap.size w w3 from ((HB2.out.setCell (Nat.le_refl _) _).setCell (Nat.le_refl _) _).trans (hb.mono (by simp; omega))); have hz3 := hT.lt; obtain ⟨m0, m1, m2, m3, m4, m5, m6, m7, m8, m9, m10, m11⟩ := (hT).cells2; have f2 := (hT).f2; clear hT hb))
    refine bodyPost_ret (v := .tuple #[sagaV o z, .int .i64 0]) (by unfold sagaV; simp [results, Tryd.results47, go_sem, *]) rfl ⟨by rw [HQ.out]; rfl, ?_⟩
    have hW2 := hW2.out
    (with_reducible repeat (first | assumption | refine Below.setCell ?_ (by first | exact Nat.le_refl _ | omega | (simp; done) | (simp; omega)) _))
  · have HQ := Lib.hid (show stopOf ⟨a, b, c, d, e, f, x⟩ = some (onOf ⟨a, b, c, 4, e, f, true⟩) by have h0 := HS.out; simp [stopOf, h0, hw, setD])
    have On := fun w => on_any o ⟨a, b, c, 4, e, f, true⟩ w
    generalize onOf ⟨a, b, c, 4, e, f, true⟩ = z at *
    simp only [sagaV] at On
    clear hw HS
    go_enter Tryd.func47, Tryd.ntmps47
    go_wp2_with (go_at_call 19; go_must ((with_reducible refine (S _).mono ?_); rintro e w1 ⟨rfl, hb⟩; have hT := Two.of hb; have HB1 := Lib.hid (show Below w.heap.size w w1 from Below.trans (((Below.refl _ _).alloc (Nat.le_refl _) _).alloc (by simp) _) (hb.mono (by simp; omega))); have hz1 := hT.lt; obtain ⟨k0, k1, k2, k3, k4, k5, k6, k7, k8, k9, k10, k11⟩ := (hT).cells1; have f1 := (hT).f1; have HT := Lib.hid hT; clear hT hb))
    go_wp2_with (go_at_call 17; go_must ((with_reducible refine (W _).mono ?_); rintro e w2 ⟨rfl, hb⟩; clear k0 k1 k2 k3 k4 k5 k6 k7 k8 k9 k10 k11 f1; have hT := HT.out.below hb; have HB2 := Lib.hid (HB1.out.trans (hb.mono (by omega))); have hz2 := hT.lt; obtain ⟨k0, k1, k2, k3, k4, k5, k6, k7, k8, k9, k10, k11⟩ := (hT).cells1; have f1 := (hT).f1; have HT2 := Lib.hid hT; clear hT hb))
    go_wp2_with (go_at_call 58; go_must ((with_reducible refine (On _).mono ?_); rintro e w3 ⟨rfl, hb⟩; clear k0 k1 k2 k3 k4 k5 k6 k7 k8 k9 k10 k11 f1; have hT := ((HT2.out.set (k := 8) (by simp) (.int .i64 4)).set (k := 11) (by simp) (.bool true)).below hb; have hW2 := Lib.hid (show Below w.heap.size w w3 from ((HB2.out.setCell (Nat.le_refl _) _).setCell (Nat.le_refl _) _).trans (hb.mono (by simp; omega))); have hz3 := hT.lt; obtain ⟨m0, m1, m2, m3, m4, m5, m6, m7, m8, m9, m10, m11⟩ := (hT).cells2; have f2 := (hT).f2; clear hT hb))
    refine bodyPost_ret (v := .tuple #[sagaV o z, .int .i64 0]) (by unfold sagaV; simp [results, Tryd.results47, go_sem, *]) rfl ⟨by rw [HQ.out]; rfl, ?_⟩
    have hW2 := hW2.out
    (with_reducible repeat (first | assumption | refine Below.setCell ?_ (by first | exact Nat.le_refl _ | omega | (simp; done) | (simp; omega)) _))
  · have HQ := Lib.hid (show stopOf ⟨a, b, c, d, e, f, x⟩ = some (onOf ⟨a, b, c, d, 4, f, true⟩) by have h0 := HS.out; simp [stopOf, h0, hw, setD])
    have On := fun w => on_any o ⟨a, b, c, d, 4, f, true⟩ w
    generalize onOf ⟨a, b, c, d, 4, f, true⟩ = z at *
    simp only [sagaV] at On
    clear hw HS
    go_enter Tryd.func47, Tryd.ntmps47
    go_wp2_with (go_at_call 19; go_must ((with_reducible refine (S _).mono ?_); rintro e w1 ⟨rfl, hb⟩; have hT := Two.of hb; have HB1 := Lib.hid (show Below w.heap.size w w1 from Below.trans (((Below.refl _ _).alloc (Nat.le_refl _) _).alloc (by simp) _) (hb.mono (by simp; omega))); have hz1 := hT.lt; obtain ⟨k0, k1, k2, k3, k4, k5, k6, k7, k8, k9, k10, k11⟩ := (hT).cells1; have f1 := (hT).f1; have HT := Lib.hid hT; clear hT hb))
    go_wp2_with (go_at_call 17; go_must ((with_reducible refine (W _).mono ?_); rintro e w2 ⟨rfl, hb⟩; clear k0 k1 k2 k3 k4 k5 k6 k7 k8 k9 k10 k11 f1; have hT := HT.out.below hb; have HB2 := Lib.hid (HB1.out.trans (hb.mono (by omega))); have hz2 := hT.lt; obtain ⟨k0, k1, k2, k3, k4, k5, k6, k7, k8, k9, k10, k11⟩ := (hT).cells1; have f1 := (hT).f1; have HT2 := Lib.hid hT; clear hT hb))
    go_wp2_with (go_at_call 58; go_must ((with_reducible refine (On _).mono ?_); rintro e w3 ⟨rfl, hb⟩; clear k0 k1 k2 k3 k4 k5 k6 k7 k8 k9 k10 k11 f1; have hT := ((HT2.out.set (k := 9) (by simp) (.int .i64 4)).set (k := 11) (by simp) (.bool true)).below hb; have hW2 := Lib.hid (show Below w.heap.size w w3 from ((HB2.out.setCell (Nat.le_refl _) _).setCell (Nat.le_refl _) _).trans (hb.mono (by simp; omega))); have hz3 := hT.lt; obtain ⟨m0, m1, m2, m3, m4, m5, m6, m7, m8, m9, m10, m11⟩ := (hT).cells2; have f2 := (hT).f2; clear hT hb))
    refine bodyPost_ret (v := .tuple #[sagaV o z, .int .i64 0]) (by unfold sagaV; simp [results, Tryd.results47, go_sem, *]) rfl ⟨by rw [HQ.out]; rfl, ?_⟩
    have hW2 := hW2.out
    (with_reducible repeat (first | assumption | refine Below.setCell ?_ (by first | exact Nat.le_refl _ | omega | (simp; done) | (simp; omega)) _))
  · have HQ := Lib.hid (show stopOf ⟨a, b, c, d, e, f, x⟩ = some (onOf ⟨a, b, c, d, e, 4, true⟩) by have h0 := HS.out; simp [stopOf, h0, hw, setD])
    have On := fun w => on_any o ⟨a, b, c, d, e, 4, true⟩ w
    generalize onOf ⟨a, b, c, d, e, 4, true⟩ = z at *
    simp only [sagaV] at On
    clear hw HS
    go_enter Tryd.func47, Tryd.ntmps47
    go_wp2_with (go_at_call 19; go_must ((with_reducible refine (S _).mono ?_); rintro e w1 ⟨rfl, hb⟩; have hT := Two.of hb; have HB1 := Lib.hid (show Below w.heap.size w w1 from Below.trans (((Below.refl _ _).alloc (Nat.le_refl _) _).alloc (by simp) _) (hb.mono (by simp; omega))); have hz1 := hT.lt; obtain ⟨k0, k1, k2, k3, k4, k5, k6, k7, k8, k9, k10, k11⟩ := (hT).cells1; have f1 := (hT).f1; have HT := Lib.hid hT; clear hT hb))
    go_wp2_with (go_at_call 17; go_must ((with_reducible refine (W _).mono ?_); rintro e w2 ⟨rfl, hb⟩; clear k0 k1 k2 k3 k4 k5 k6 k7 k8 k9 k10 k11 f1; have hT := HT.out.below hb; have HB2 := Lib.hid (HB1.out.trans (hb.mono (by omega))); have hz2 := hT.lt; obtain ⟨k0, k1, k2, k3, k4, k5, k6, k7, k8, k9, k10, k11⟩ := (hT).cells1; have f1 := (hT).f1; have HT2 := Lib.hid hT; clear hT hb))
    go_wp2_with (go_at_call 58; go_must ((with_reducible refine (On _).mono ?_); rintro e w3 ⟨rfl, hb⟩; clear k0 k1 k2 k3 k4 k5 k6 k7 k8 k9 k10 k11 f1; have hT := ((HT2.out.set (k := 10) (by simp) (.int .i64 4)).set (k := 11) (by simp) (.bool true)).below hb; have hW2 := Lib.hid (show Below w.heap.size w w3 from ((HB2.out.setCell (Nat.le_refl _) _).setCell (Nat.le_refl _) _).trans (hb.mono (by simp; omega))); have hz3 := hT.lt; obtain ⟨m0, m1, m2, m3, m4, m5, m6, m7, m8, m9, m10, m11⟩ := (hT).cells2; have f2 := (hT).f2; clear hT hb))
    refine bodyPost_ret (v := .tuple #[sagaV o z, .int .i64 0]) (by unfold sagaV; simp [results, Tryd.results47, go_sem, *]) rfl ⟨by rw [HQ.out]; rfl, ?_⟩
    have hW2 := hW2.out
    (with_reducible repeat (first | assumption | refine Below.setCell ?_ (by first | exact Nat.le_refl _ | omega | (simp; done) | (simp; omega)) _))
end Go.Proofs.YtibabfedpdoofaaDoor
namespace Go.Proofs.YtibabfedpdoofaaDoor
open Go.RowKit Go.Own

set_option maxHeartbeats 2000000 in
set_option maxRecDepth 100000 in
theorem sagaNet_any (o : OrdS) (s : D6) (w : World) : Calls Tryd.prog 20 #[sagaV o s] w fun e w' => e = .returned (.int .i64 (netS o s)) ∧ Below w.heap.size w w' := by
  obtain ⟨a, b, c, d, e, f, x⟩ := s
  rw [(show sagaV o ⟨a, b, c, d, e, f, x⟩ = .agg #[.int .i64 o.id, .string ⟨o.ref.toArray⟩, .string ⟨o.sku.toArray⟩, .int .i64 o.qty, .int .i64 o.amt, .int .i64 a, .int .i64 b, .int .i64 c, .int .i64 d, .int .i64 e, .int .i64 f, .bool x] from rfl)]
  by_cases h1 : b = 2
  · by_cases h2 : e = 2
    · have HQ := Lib.hid (show netS o ⟨a, b, c, d, e, f, x⟩ = 0 by simp [netS, h2])
      have h1b : (b != 2) = false := by simpa using h1
      have h2b : (e == 2) = true := by simpa using h2
      clear h1 h2
      go_enter Tryd.func20, Tryd.ntmps20
      go_wp2_with fail
      go_ret
      exact ⟨by rw [HQ.out]; rfl, (by with_reducible (repeat (first | assumption | exact Below.refl _ _ | refine Below.drew ?_ | refine below_drewN ?_ _ | refine Below.alloc ?_ (by first | (simp; done) | omega | (simp; omega)) _ | refine Below.setCell ?_ (by first | (simp; done) | omega | (simp; omega)) _ | refine Below.trans ?_ (Below.mono (by assumption) (by first | (simp; done) | omega | (simp; omega))))))⟩
    · have HQ := Lib.hid (show netS o ⟨a, b, c, d, e, f, x⟩ = o.amt by simp [netS, h1, h2])
      have h1b : (b != 2) = false := by simpa using h1
      have h2b : (e == 2) = false := by simpa using h2
      clear h1 h2
      go_enter Tryd.func20, Tryd.ntmps20
      go_wp2_with fail
      go_ret
      exact ⟨by rw [HQ.out]; rfl, (by with_reducible (repeat (first | assumption | exact Below.refl _ _ | refine Below.drew ?_ | refine below_drewN ?_ _ | refine Below.alloc ?_ (by first | (simp; done) | omega | (simp; omega)) _ | refine Below.setCell ?_ (by first | (simp; done) | omega | (simp; omega)) _ | refine Below.trans ?_ (Below.mono (by assumption) (by first | (simp; done) | omega | (simp; omega))))))⟩
  · have HQ := Lib.hid (show netS o ⟨a, b, c, d, e, f, x⟩ = 0 by simp [netS, h1])
    have h1b : (b != 2) = true := by simpa using h1
    clear h1
    go_enter Tryd.func20, Tryd.ntmps20
    go_wp2_with fail
    go_ret
    exact ⟨by rw [HQ.out]; rfl, (by with_reducible (repeat (first | assumption | exact Below.refl _ _ | refine Below.drew ?_ | refine below_drewN ?_ _ | refine Below.alloc ?_ (by first | (simp; done) | omega | (simp; omega)) _ | refine Below.setCell ?_ (by first | (simp; done) | omega | (simp; omega)) _ | refine Below.trans ?_ (Below.mono (by assumption) (by first | (simp; done) | omega | (simp; omega))))))⟩
end Go.Proofs.YtibabfedpdoofaaDoor
namespace Go.Proofs.YtibabfedpdoofaaDoor
open Go.RowKit Go.Own Go.Maps

def ordE (o : OrdS) : Int := ordCheck o.id o.ref o.sku o.qty o.amt
def placeE (L : List (OrdS × D6)) (o : OrdS) : Int := if ordE o ≠ 0 then ordE o else if hasL L o.ref = true then 91 else if 60 ≤ L.length then 60 else if o.id ≠ (L.length : Int) + 1 then 2 else 0
def placeL (L : List (OrdS × D6)) (o : OrdS) : List (OrdS × D6) := if placeE L o = 0 then L ++ [(o, beginD)] else L

set_option maxHeartbeats 8000000 in
set_option maxRecDepth 100000 in
theorem coPlace_any {W w : World} {M : List Ent} {a : CoA} {S : CoS} {i : InA} {A : InS} (o : OrdS) (HO : Own W w (coPs a S i A ++ M)) (hl : S.L.length ≤ 60) (h1 : o.ref.length ≤ maxLen) (h2 : o.sku.length ≤ maxLen) :
    Calls Tryd.prog 29 #[.pointer (some ⟨a.c, 0, none⟩), ordV o] w fun e w' => e = .returned (.int .i64 (placeE S.L o)) ∧ ∃ v', Own W w' (coPs { a with v := v' } { S with L := placeL S.L o } i A ++ M) := by
  have OC := fun w => ordCheck_any o.id o.ref o.sku o.qty o.amt w h1 h2
  have BG := fun w => begin_any o w
  have hpv := (Own.coAt HO (a := a) (S := S) (i := i) (A := A) (by repeat (first | exact List.mem_cons_self | apply List.mem_cons_of_mem)) (by repeat (first | exact List.mem_cons_self | apply List.mem_cons_of_mem)) (by repeat (first | exact List.mem_cons_self | apply List.mem_cons_of_mem))).row.slice
  obtain ⟨ac, av, ak, au, apm, abm⟩ := a
  obtain ⟨p, c, hv, hmx⟩ := hpv
  simp only at hv
  subst hv
  rw [List.length_map] at HO
  have HE := Lib.hid (show placeE S.L o = if ordE o ≠ 0 then ordE o else if hasL S.L o.ref = true then 91 else if 60 ≤ S.L.length then 60 else if o.id ≠ (S.L.length : Int) + 1 then 2 else 0 from rfl)
  have HP := Lib.hid (show placeL S.L o = if placeE S.L o = 0 then S.L ++ [(o, beginD)] else S.L from rfl)
  change ∀ w, Calls Tryd.prog 44 _ w fun e w' => e = .returned (.int .i64 (ordE o)) ∧ Below w.heap.size w w' at OC
  have HS := fun (w : World) (L : List Ent) (h : Own W w L) h1 h2 h3 => coHas_any (Own.coAt h (a := ⟨ac, .slice p S.L.length c, ak, au, apm, abm⟩) (S := S) (i := i) (A := A) h1 h2 h3) o.ref
  simp only [coC] at HS
  have HS0 := Lib.hid HS
  clear HS h1 h2
  generalize placeL S.L o = Lx at *
  generalize placeE S.L o = ex at *
  generalize ordE o = eo at *
  generalize hasL S.L o.ref = hs at *
  unfold coPs coC at HO
  simp only [List.cons_append, List.nil_append] at HO
  by_cases c1 : eo = 0
  rotate_left
  · rw [if_pos c1] at HE
    obtain rfl := HE.out
    rw [if_neg c1] at HP
    obtain rfl := HP.out
    go_enter Tryd.func29, Tryd.ntmps29
    go_wp2_with (first | go_big_skip | (first | go_big_skip | ((with_reducible apply wpList_loadAll HO); exact rfl; exact rfl; (repeat (with_reducible (first | exact At.head _ | apply At.tail))); infer_instance; exact rfl; exact rfl; (simp only [Act.put, List.setIfInBounds_toArray, List.set_cons_succ, List.set_cons_zero])) | ((with_reducible apply wpList_loadOne HO); exact rfl; exact rfl; (repeat (with_reducible (first | exact At.head _ | apply At.tail))); exact rfl; infer_instance; exact rfl; (simp only [Act.put, List.setIfInBounds_toArray, List.set_cons_succ, List.set_cons_zero]))) | ((with_reducible apply wpList_storeAll HO); exact rfl; exact rfl; exact rfl; (repeat (with_reducible (first | exact At.head _ | apply At.tail))); infer_instance; exact rfl; exact rfl; exact rfl; exact rfl; clear HO; intro w HO; (simp only [Act.put])) | (first | ((with_reducible apply wpList_boxAgg _ HO rfl); exact rfl; exact rfl; exact rfl; clear HO; intro b1 w HO; (simp only [Act.put, List.setIfInBounds_toArray, List.set_cons_succ, List.set_cons_zero])) | ((with_reducible apply wpList_allocAgg _ HO rfl); exact rfl; infer_instance; exact rfl; clear HO; intro b1 w HO; (simp only [Act.put, List.setIfInBounds_toArray, List.set_cons_succ, List.set_cons_zero]))) | (go_at_call 44; go_must ((with_reducible refine (OC _).mono ?_); rintro e w ⟨rfl, hb⟩; replace HO := HO.call hb; clear hb)))
    go_ret
    exact ⟨rfl, _, HO.tail⟩
  subst c1
  rw [if_neg (by simp)] at HE
  by_cases c2 : hs = true
  · subst c2
    rw [if_pos rfl] at HE
    obtain rfl := HE.out
    rw [if_neg (by decide)] at HP
    obtain rfl := HP.out
    go_enter Tryd.func29, Tryd.ntmps29
    go_wp2_with (first | go_big_skip | (first | go_big_skip | ((with_reducible apply wpList_loadAll HO); exact rfl; exact rfl; (repeat (with_reducible (first | exact At.head _ | apply At.tail))); infer_instance; exact rfl; exact rfl; (simp only [Act.put, List.setIfInBounds_toArray, List.set_cons_succ, List.set_cons_zero])) | ((with_reducible apply wpList_loadOne HO); exact rfl; exact rfl; (repeat (with_reducible (first | exact At.head _ | apply At.tail))); exact rfl; infer_instance; exact rfl; (simp only [Act.put, List.setIfInBounds_toArray, List.set_cons_succ, List.set_cons_zero]))) | ((with_reducible apply wpList_storeAll HO); exact rfl; exact rfl; exact rfl; (repeat (with_reducible (first | exact At.head _ | apply At.tail))); infer_instance; exact rfl; exact rfl; exact rfl; exact rfl; clear HO; intro w HO; (simp only [Act.put])) | (first | ((with_reducible apply wpList_boxAgg _ HO rfl); exact rfl; exact rfl; exact rfl; clear HO; intro b1 w HO; (simp only [Act.put, List.setIfInBounds_toArray, List.set_cons_succ, List.set_cons_zero])) | ((with_reducible apply wpList_allocAgg _ HO rfl); exact rfl; infer_instance; exact rfl; clear HO; intro b1 w HO; (simp only [Act.put, List.setIfInBounds_toArray, List.set_cons_succ, List.set_cons_zero]))) | (go_at_call 44; go_must ((with_reducible refine (OC _).mono ?_); rintro e w ⟨rfl, hb⟩; replace HO := HO.call hb; clear hb)) | (go_at_call 45; go_must ((with_reducible refine (HS0.out _ _ HO (by repeat (first | exact List.mem_cons_self | apply List.mem_cons_of_mem)) (by repeat (first | exact List.mem_cons_self | apply List.mem_cons_of_mem)) (by repeat (first | exact List.mem_cons_self | apply List.mem_cons_of_mem))).mono ?_); rintro e w ⟨rfl, hb⟩; replace HO := HO.call hb; clear hb)))
    go_ret
    exact ⟨rfl, _, HO.tail⟩
  rw [Bool.not_eq_true] at c2
  subst c2
  rw [if_neg (by decide)] at HE
  by_cases c3 : 60 ≤ S.L.length
  · have c3' : ¬ (S.L.length : Int) < 60 := by omega
    rw [if_pos c3] at HE
    obtain rfl := HE.out
    rw [if_neg (by decide)] at HP
    obtain rfl := HP.out
    go_enter Tryd.func29, Tryd.ntmps29
    go_wp2_with (first | go_big_skip | (first | go_big_skip | ((with_reducible apply wpList_loadAll HO); exact rfl; exact rfl; (repeat (with_reducible (first | exact At.head _ | apply At.tail))); infer_instance; exact rfl; exact rfl; (simp only [Act.put, List.setIfInBounds_toArray, List.set_cons_succ, List.set_cons_zero])) | ((with_reducible apply wpList_loadOne HO); exact rfl; exact rfl; (repeat (with_reducible (first | exact At.head _ | apply At.tail))); exact rfl; infer_instance; exact rfl; (simp only [Act.put, List.setIfInBounds_toArray, List.set_cons_succ, List.set_cons_zero]))) | ((with_reducible apply wpList_storeAll HO); exact rfl; exact rfl; exact rfl; (repeat (with_reducible (first | exact At.head _ | apply At.tail))); infer_instance; exact rfl; exact rfl; exact rfl; exact rfl; clear HO; intro w HO; (simp only [Act.put])) | (first | ((with_reducible apply wpList_boxAgg _ HO rfl); exact rfl; exact rfl; exact rfl; clear HO; intro b1 w HO; (simp only [Act.put, List.setIfInBounds_toArray, List.set_cons_succ, List.set_cons_zero])) | ((with_reducible apply wpList_allocAgg _ HO rfl); exact rfl; infer_instance; exact rfl; clear HO; intro b1 w HO; (simp only [Act.put, List.setIfInBounds_toArray, List.set_cons_succ, List.set_cons_zero]))) | (go_at_call 44; go_must ((with_reducible refine (OC _).mono ?_); rintro e w ⟨rfl, hb⟩; replace HO := HO.call hb; clear hb)) | (go_at_call 45; go_must ((with_reducible refine (HS0.out _ _ HO (by repeat (first | exact List.mem_cons_self | apply List.mem_cons_of_mem)) (by repeat (first | exact List.mem_cons_self | apply List.mem_cons_of_mem)) (by repeat (first | exact List.mem_cons_self | apply List.mem_cons_of_mem))).mono ?_); rintro e w ⟨rfl, hb⟩; replace HO := HO.call hb; clear hb)))
    go_ret
    exact ⟨rfl, _, HO.tail⟩
  have c3' : (S.L.length : Int) < 60 := by omega
  rw [if_neg c3] at HE
  by_cases c4 : o.id = (S.L.length : Int) + 1
  rotate_left
  · rw [if_pos c4] at HE
    obtain rfl := HE.out
    rw [if_neg (by decide)] at HP
    obtain rfl := HP.out
    go_enter Tryd.func29, Tryd.ntmps29
    go_upto_region 8 with (first | go_big_skip | (first | go_big_skip | ((with_reducible apply wpList_loadAll HO); exact rfl; exact rfl; (repeat (with_reducible (first | exact At.head _ | apply At.tail))); infer_instance; exact rfl; exact rfl; (simp only [Act.put, List.setIfInBounds_toArray, List.set_cons_succ, List.set_cons_zero])) | ((with_reducible apply wpList_loadOne HO); exact rfl; exact rfl; (repeat (with_reducible (first | exact At.head _ | apply At.tail))); exact rfl; infer_instance; exact rfl; (simp only [Act.put, List.setIfInBounds_toArray, List.set_cons_succ, List.set_cons_zero]))) | ((with_reducible apply wpList_storeAll HO); exact rfl; exact rfl; exact rfl; (repeat (with_reducible (first | exact At.head _ | apply At.tail))); infer_instance; exact rfl; exact rfl; exact rfl; exact rfl; clear HO; intro w HO; (simp only [Act.put])) | (first | ((with_reducible apply wpList_boxAgg _ HO rfl); exact rfl; exact rfl; exact rfl; clear HO; intro b1 w HO; (simp only [Act.put, List.setIfInBounds_toArray, List.set_cons_succ, List.set_cons_zero])) | ((with_reducible apply wpList_allocAgg _ HO rfl); exact rfl; infer_instance; exact rfl; clear HO; intro b1 w HO; (simp only [Act.put, List.setIfInBounds_toArray, List.set_cons_succ, List.set_cons_zero]))) | (go_at_call 44; go_must ((with_reducible refine (OC _).mono ?_); rintro e w ⟨rfl, hb⟩; replace HO := HO.call hb; clear hb)) | (go_at_call 45; go_must ((with_reducible refine (HS0.out _ _ HO (by repeat (first | exact List.mem_cons_self | apply List.mem_cons_of_mem)) (by repeat (first | exact List.mem_cons_self | apply List.mem_cons_of_mem)) (by repeat (first | exact List.mem_cons_self | apply List.mem_cons_of_mem))).mono ?_); rintro e w ⟨rfl, hb⟩; replace HO := HO.call hb; clear hb)))
    refine region_own HO (by kernel_rfl) (by kernel_rfl) ?_
    clear HO
    intro F HF
    repeat (first | (first | go_big_quiet_skip | ((with_reducible apply wpQuiet_loadAll HF); exact rfl; exact rfl; (repeat (with_reducible (first | exact At.head _ | apply At.tail))); infer_instance; exact rfl; exact rfl; (simp only [Act.put, List.setIfInBounds_toArray, List.set_cons_succ, List.set_cons_zero])) | ((with_reducible apply wpQuiet_loadOne HF); exact rfl; exact rfl; (repeat (with_reducible (first | exact At.head _ | apply At.tail))); exact rfl; infer_instance; exact rfl; (simp only [Act.put, List.setIfInBounds_toArray, List.set_cons_succ, List.set_cons_zero])) | ((with_reducible apply wpQuiet_loadPart HF); exact rfl; exact rfl; (repeat (with_reducible (first | exact At.head _ | apply At.tail))); infer_instance; exact (Nat.le_of_ble_eq_true rfl); (simp only [List.drop_succ_cons, List.drop_zero, List.take_succ_cons, List.take_zero]; rfl); exact rfl; (simp only [Act.put, List.setIfInBounds_toArray, List.set_cons_succ, List.set_cons_zero]))) | go_big_quiet_step (fail))
    refine wpQuiet_nil ?_
    intro x
    have HO := HF.own x
    clear HF
    generalize F x = w at *
    clear x F
    go_wp2_with fail
    go_ret
    exact ⟨rfl, _, HO.tail⟩
  rw [if_neg (by simp [c4])] at HE
  obtain rfl := HE.out
  rw [if_pos rfl] at HP
  obtain rfl := HP.out
  clear HE HP
  obtain ⟨oid, oref, osku, oq, oa⟩ := o
  simp only at c4 OC HO HS0
  simp only [ordV, sagaV] at BG
  subst c4
  go_enter Tryd.func29, Tryd.ntmps29
  go_upto_region 8 with (first | go_big_skip | (first | go_big_skip | ((with_reducible apply wpList_loadAll HO); exact rfl; exact rfl; (repeat (with_reducible (first | exact At.head _ | apply At.tail))); infer_instance; exact rfl; exact rfl; (simp only [Act.put, List.setIfInBounds_toArray, List.set_cons_succ, List.set_cons_zero])) | ((with_reducible apply wpList_loadOne HO); exact rfl; exact rfl; (repeat (with_reducible (first | exact At.head _ | apply At.tail))); exact rfl; infer_instance; exact rfl; (simp only [Act.put, List.setIfInBounds_toArray, List.set_cons_succ, List.set_cons_zero]))) | ((with_reducible apply wpList_storeAll HO); exact rfl; exact rfl; exact rfl; (repeat (with_reducible (first | exact At.head _ | apply At.tail))); infer_instance; exact rfl; exact rfl; exact rfl; exact rfl; clear HO; intro w HO; (simp only [Act.put])) | (first | ((with_reducible apply wpList_boxAgg _ HO rfl); exact rfl; exact rfl; exact rfl; clear HO; intro b1 w HO; (simp only [Act.put, List.setIfInBounds_toArray, List.set_cons_succ, List.set_cons_zero])) | ((with_reducible apply wpList_allocAgg _ HO rfl); exact rfl; infer_instance; exact rfl; clear HO; intro b1 w HO; (simp only [Act.put, List.setIfInBounds_toArray, List.set_cons_succ, List.set_cons_zero]))) | (go_at_call 44; go_must ((with_reducible refine (OC _).mono ?_); rintro e w ⟨rfl, hb⟩; replace HO := HO.call hb; clear hb)) | (go_at_call 45; go_must ((with_reducible refine (HS0.out _ _ HO (by repeat (first | exact List.mem_cons_self | apply List.mem_cons_of_mem)) (by repeat (first | exact List.mem_cons_self | apply List.mem_cons_of_mem)) (by repeat (first | exact List.mem_cons_self | apply List.mem_cons_of_mem))).mono ?_); rintro e w ⟨rfl, hb⟩; replace HO := HO.call hb; clear hb)))
  refine region_own HO (by kernel_rfl) (by kernel_rfl) ?_
  clear HO
  intro F HF
  repeat (first | (first | go_big_quiet_skip | ((with_reducible apply wpQuiet_loadAll HF); exact rfl; exact rfl; (repeat (with_reducible (first | exact At.head _ | apply At.tail))); infer_instance; exact rfl; exact rfl; (simp only [Act.put, List.setIfInBounds_toArray, List.set_cons_succ, List.set_cons_zero])) | ((with_reducible apply wpQuiet_loadOne HF); exact rfl; exact rfl; (repeat (with_reducible (first | exact At.head _ | apply At.tail))); exact rfl; infer_instance; exact rfl; (simp only [Act.put, List.setIfInBounds_toArray, List.set_cons_succ, List.set_cons_zero])) | ((with_reducible apply wpQuiet_loadPart HF); exact rfl; exact rfl; (repeat (with_reducible (first | exact At.head _ | apply At.tail))); infer_instance; exact (Nat.le_of_ble_eq_true rfl); (simp only [List.drop_succ_cons, List.drop_zero, List.take_succ_cons, List.take_zero]; rfl); exact rfl; (simp only [Act.put, List.setIfInBounds_toArray, List.set_cons_succ, List.set_cons_zero]))) | go_big_quiet_step (fail))
  refine wpQuiet_nil ?_
  intro x
  have HO := HF.own x
  clear HF
  generalize F x = w at *
  clear x F
  go_upto_region 10 with fail
  refine region_sched2 ([box b1 (.cells #[.int .i64 ((S.L.length : Int) + 1), .string ⟨oref.toArray⟩, .string ⟨osku.toArray⟩, .int .i64 oq, .int .i64 oa] 33), box ac (.cells #[.slice p S.L.length c, .pointer (some ⟨ak, 0, none⟩), .int .i64 A.p0, .int .i64 A.q0, i.v0, .int .i64 A.p1, .int .i64 A.q1, i.v1, .int .i64 A.p2, .int .i64 A.q2, i.v2, i.m] 82)]) [(0, true), (1, true), (2, true), (3, true), (4, true), (5, true), (6, false), (7, false), (8, false), (9, true), (10, true), (11, false)] HO (by with_reducible (repeat (first | exact List.nil_sublist _ | apply List.Sublist.cons_cons | apply List.Sublist.cons))) (by kernel_rfl) (by kernel_rfl) ?_
  clear HO
  intro w HO
  repeat (first | ((with_reducible apply wpSched_loadOne); exact rfl; exact rfl; exact rfl; (repeat (with_reducible (first | exact At.head _ | apply At.tail))); exact rfl; infer_instance; exact rfl; (simp only [Act.put, List.setIfInBounds_toArray, List.set_cons_succ, List.set_cons_zero])) | ((with_reducible apply wpSched_loadAll); exact rfl; exact rfl; exact rfl; (repeat (with_reducible (first | exact At.head _ | apply At.tail))); infer_instance; exact rfl; exact rfl; (simp only [Act.put, List.setIfInBounds_toArray, List.set_cons_succ, List.set_cons_zero])) | ((with_reducible apply wpSched_pure); exact rfl; exact rfl; (intro w'; go_simp; try with_reducible rfl); (simp only [Act.put, List.setIfInBounds_toArray, List.set_cons_succ, List.set_cons_zero])))
  ((with_reducible apply wpSched_loud); exact rfl; go_wp2_with ((go_at_call 46; go_must ((with_reducible refine (BG _).mono ?_); rintro e w ⟨rfl, hb⟩; replace HO := HO.call hb; clear hb))))
  refine thenQ_keep (HO.held (by with_reducible (repeat (first | exact List.nil_sublist _ | apply List.Sublist.cons_cons | apply List.Sublist.cons)))) ?_
  ((with_reducible apply wpSched_loud); exact rfl; (first | ((with_reducible apply wpList_lit1 HO); exact rfl; infer_instance; infer_instance; exact rfl; exact rfl; exact (by decide); exact rfl; clear HO; intro bl w HO; (simp only [Act.put, List.setIfInBounds_toArray, List.set_cons_succ, List.set_cons_zero])) | ((with_reducible apply wpList_lit1c HO); exact rfl; infer_instance; infer_instance; (first | (simp [Act.eval]; rfl) | exact rfl); exact rfl; exact rfl; clear HO; intro bl w HO; (simp only [Act.put, List.setIfInBounds_toArray, List.set_cons_succ, List.set_cons_zero]))))
  refine wpList_nil (thenQ_keep (HO.held (by with_reducible (repeat (first | exact List.nil_sublist _ | apply List.Sublist.cons_cons | apply List.Sublist.cons)))) ?_)
  ((with_reducible apply wpSched_loud); exact rfl; ((with_reducible apply wpList_push1 HO); exact rfl; infer_instance; infer_instance; (first | (simp [Act.eval]; rfl) | exact rfl); exact rfl; intro _; (repeat (with_reducible (first | exact At.head _ | apply At.tail))); exact rfl; exact rfl; (first | omega | (simp; omega)); decide; exact rfl; clear HO; intro v2 w HO hv2; (simp only [Act.put, List.setIfInBounds_toArray, List.set_cons_succ, List.set_cons_zero])))
  obtain ⟨p9, n9, c9, rfl⟩ := hv2
  refine wpList_nil (thenQ_free (by kernel_rfl) ?_)
  repeat ((with_reducible apply wpSched_pure); exact rfl; exact rfl; (intro w'; go_simp; try with_reducible rfl); (simp only [Act.put, List.setIfInBounds_toArray, List.set_cons_succ, List.set_cons_zero]))
  ((with_reducible apply wpSched_loud); exact rfl; ((with_reducible apply wpList_storeOne HO); exact rfl; exact rfl; (first | (simp [Act.eval]; rfl) | exact rfl); exact rfl; (repeat (with_reducible (first | exact At.head _ | apply At.tail))); infer_instance; exact (by simp); (simp only [List.set_cons_zero]; rfl); exact rfl; clear HO; intro w HO; (simp only [Act.put])))
  refine wpList_nil (thenQ_free (by kernel_rfl) ?_)
  refine wpSched_end ?_
  go_wp2_with fail
  go_ret
  have h1 := (HO.sub (.cons _ (List.Sublist.refl _)))
  refine ⟨rfl, .slice p9 n9 c9, ?_⟩
  unfold coPs coC
  rw [List.map_append]
  exact h1
end Go.Proofs.YtibabfedpdoofaaDoor
namespace Go.Proofs.YtibabfedpdoofaaDoor
open Go.RowKit Go.Own Go.Maps

/-- A saga in its place. -/
def sagAt (L : List (OrdS × D6)) (id : Int) (x : OrdS × D6) : List (OrdS × D6) := L.set (id - 1).toNat x
def stopE (L : List (OrdS × D6)) (id : Int) : Int := match ordAt L id with
  | none => 4
  | some x => match stopOf x.2 with
    | none => 92
    | some _ => 0
def stopL (L : List (OrdS × D6)) (id : Int) : List (OrdS × D6) := match ordAt L id with
  | none => L
  | some x => match stopOf x.2 with
    | none => L
    | some t => sagAt L id (x.1, t)
theorem ordAt_some {L : List (OrdS × D6)} {id : Int} {x : OrdS × D6} (h : ordAt L id = some x) : ∃ j : Nat, ∃ hj : j < L.length, id = (j : Int) + 1 ∧ x = L[j] := by
  unfold ordAt at h
  split at h
  · obtain ⟨h1, h2⟩ := List.getElem?_eq_some_iff.1 h
    exact ⟨_, h1, by omega, h2.symm⟩
  · cases h

set_option maxHeartbeats 8000000 in
set_option maxRecDepth 100000 in
theorem coStop_any {W w : World} {M : List Ent} {a : CoA} {S : CoS} {i : InA} {A : InS} (id : Int) (HO : Own W w (coPs a S i A ++ M)) (hid : inI id = true) :
    Calls Tryd.prog 30 #[.pointer (some ⟨a.c, 0, none⟩), .int .i64 id] w fun e w' => e = .returned (.int .i64 (stopE S.L id)) ∧ Own W w' (coPs a { S with L := stopL S.L id } i A ++ M) := by
  have OR := fun (w : World) (L : List Ent) (h : Own W w L) h1 h2 h3 => coOrder_any (Own.coAt h (a := a) (S := S) (i := i) (A := A) h1 h2 h3) hid
  have hpv := (Own.coAt HO (a := a) (S := S) (i := i) (A := A) (by repeat (first | exact List.mem_cons_self | apply List.mem_cons_of_mem)) (by repeat (first | exact List.mem_cons_self | apply List.mem_cons_of_mem)) (by repeat (first | exact List.mem_cons_self | apply List.mem_cons_of_mem))).row.slice
  obtain ⟨ac, av, ak, au, apm, abm⟩ := a
  obtain ⟨p, c, hv, hmx⟩ := hpv
  simp only at hv
  subst hv
  rw [List.length_map] at HO
  rw [List.length_map] at OR
  simp only [coC] at OR
  unfold coPs coC at HO
  simp only [List.cons_append, List.nil_append] at HO
  rcases hx : ordAt S.L id with _ | x
  · rw [hx] at OR
    rw [show stopE S.L id = 4 by unfold stopE; rw [hx], show stopL S.L id = S.L by unfold stopL; rw [hx]]
    simp only [ordR] at OR
    have OR0 := Lib.hid OR
    clear OR
    go_enter Tryd.func30, Tryd.ntmps30
    go_wp2_with (first | go_big_skip | (first | go_big_skip | ((with_reducible apply wpList_loadAll HO); exact rfl; exact rfl; (repeat (with_reducible (first | exact At.head _ | apply At.tail))); infer_instance; exact rfl; exact rfl; (simp only [Act.put, List.setIfInBounds_toArray, List.set_cons_succ, List.set_cons_zero])) | ((with_reducible apply wpList_loadOne HO); exact rfl; exact rfl; (repeat (with_reducible (first | exact At.head _ | apply At.tail))); exact rfl; infer_instance; exact rfl; (simp only [Act.put, List.setIfInBounds_toArray, List.set_cons_succ, List.set_cons_zero]))) | ((with_reducible apply wpList_storeAll HO); exact rfl; exact rfl; exact rfl; (repeat (with_reducible (first | exact At.head _ | apply At.tail))); infer_instance; exact rfl; exact rfl; exact rfl; exact rfl; clear HO; intro w HO; (simp only [Act.put])) | (first | ((with_reducible apply wpList_boxAgg _ HO rfl); exact rfl; exact rfl; exact rfl; clear HO; intro b1 w HO; (simp only [Act.put, List.setIfInBounds_toArray, List.set_cons_succ, List.set_cons_zero])) | ((with_reducible apply wpList_allocAgg _ HO rfl); exact rfl; infer_instance; exact rfl; clear HO; intro b1 w HO; (simp only [Act.put, List.setIfInBounds_toArray, List.set_cons_succ, List.set_cons_zero]))) | (go_at_call 16; go_must ((with_reducible refine (OR0.out _ _ HO (by repeat (first | exact List.mem_cons_self | apply List.mem_cons_of_mem)) (by repeat (first | exact List.mem_cons_self | apply List.mem_cons_of_mem)) (by repeat (first | exact List.mem_cons_self | apply List.mem_cons_of_mem))).mono ?_); rintro e w ⟨rfl, hb⟩; replace HO := HO.call hb; clear hb)))
    go_ret
    refine ⟨rfl, ?_⟩
    unfold coPs coC
    rw [List.length_map]
    exact HO.tail
  · obtain ⟨j, hj, hid2, rfl⟩ := ordAt_some hx
    have hi := inI_iff.1 hid
    have hjI : (j : Int) < (S.L.length : Int) := by omega
    have e1 : IntKind.i64.wrap (id - 1) = (j : Int) := by rw [wrap_in (inI_iff.2 (by omega))]; omega
    have e2 : (id - 1).toNat = j := by omega
    have hset := Lib.hid (fun y => show (S.L.set j y).map sagaL = (S.L.map sagaL).set j (sagaL y) from List.map_set ..)
    have hjm := Lib.hid (show j < (S.L.map sagaL).length by simpa using hj)
    obtain ⟨q, hq⟩ : ∃ q, p = some q := by
      rcases p with _ | q
      · have := (Own.coAt HO (a := ⟨ac, .slice none S.L.length c, ak, au, apm, abm⟩) (S := S) (i := i) (A := A) (by repeat (first | exact List.mem_cons_self | apply List.mem_cons_of_mem)) (by repeat (first | exact List.mem_cons_self | apply List.mem_cons_of_mem)) (by repeat (first | exact List.mem_cons_self | apply List.mem_cons_of_mem))).row.at (by simp; omega)
        obtain ⟨_, _, h, _⟩ := this
        cases h
      · exact ⟨q, rfl⟩
    subst hq
    have hsl := Lib.hid (sagaL_len S.L)
    rw [hx] at OR
    rw [List.length_map]
    rw [show stopE S.L id = (match stopOf S.L[j].2 with | none => 92 | some _ => 0) by unfold stopE; rw [hx], show stopL S.L id = (match stopOf S.L[j].2 with | none => S.L | some t => S.L.set j (S.L[j].1, t)) by unfold stopL; rw [hx]; simp only [sagAt, e2]]
    generalize hy : S.L[j] = y at *
    obtain ⟨o, s⟩ := y
    have ST := fun w => stop_any o s w
    simp only [ordR, sagaV] at OR
    have OR0 := Lib.hid OR
    clear OR hx hid2 e2 hi
    rcases hst : stopOf s with _ | t
    · rw [hst] at ST
      simp only [stopV, noneV, sagaV] at ST
      go_enter Tryd.func30, Tryd.ntmps30
      go_wp2_with (first | go_big_skip | (first | go_big_skip | ((with_reducible apply wpList_loadAll HO); exact rfl; exact rfl; (repeat (with_reducible (first | exact At.head _ | apply At.tail))); infer_instance; exact rfl; exact rfl; (simp only [Act.put, List.setIfInBounds_toArray, List.set_cons_succ, List.set_cons_zero])) | ((with_reducible apply wpList_loadOne HO); exact rfl; exact rfl; (repeat (with_reducible (first | exact At.head _ | apply At.tail))); exact rfl; infer_instance; exact rfl; (simp only [Act.put, List.setIfInBounds_toArray, List.set_cons_succ, List.set_cons_zero]))) | ((with_reducible apply wpList_storeAll HO); exact rfl; exact rfl; exact rfl; (repeat (with_reducible (first | exact At.head _ | apply At.tail))); infer_instance; exact rfl; exact rfl; exact rfl; exact rfl; clear HO; intro w HO; (simp only [Act.put])) | (first | ((with_reducible apply wpList_boxAgg _ HO rfl); exact rfl; exact rfl; exact rfl; clear HO; intro b1 w HO; (simp only [Act.put, List.setIfInBounds_toArray, List.set_cons_succ, List.set_cons_zero])) | ((with_reducible apply wpList_allocAgg _ HO rfl); exact rfl; infer_instance; exact rfl; clear HO; intro b1 w HO; (simp only [Act.put, List.setIfInBounds_toArray, List.set_cons_succ, List.set_cons_zero]))) | (go_at_call 16; go_must ((with_reducible refine (OR0.out _ _ HO (by repeat (first | exact List.mem_cons_self | apply List.mem_cons_of_mem)) (by repeat (first | exact List.mem_cons_self | apply List.mem_cons_of_mem)) (by repeat (first | exact List.mem_cons_self | apply List.mem_cons_of_mem))).mono ?_); rintro e w ⟨rfl, hb⟩; replace HO := HO.call hb; clear hb)) | (go_at_call 47; go_must ((with_reducible refine (ST _).mono ?_); rintro e w ⟨rfl, hb⟩; replace HO := HO.call hb; clear hb)))
      go_ret
      exact ⟨rfl, HO.tail⟩
    · rw [hst] at ST
      simp only [stopV, sagaV] at ST
      go_enter Tryd.func30, Tryd.ntmps30
      go_upto_region 6 with (first | go_big_skip | (first | go_big_skip | ((with_reducible apply wpList_loadAll HO); exact rfl; exact rfl; (repeat (with_reducible (first | exact At.head _ | apply At.tail))); infer_instance; exact rfl; exact rfl; (simp only [Act.put, List.setIfInBounds_toArray, List.set_cons_succ, List.set_cons_zero])) | ((with_reducible apply wpList_loadOne HO); exact rfl; exact rfl; (repeat (with_reducible (first | exact At.head _ | apply At.tail))); exact rfl; infer_instance; exact rfl; (simp only [Act.put, List.setIfInBounds_toArray, List.set_cons_succ, List.set_cons_zero]))) | ((with_reducible apply wpList_storeAll HO); exact rfl; exact rfl; exact rfl; (repeat (with_reducible (first | exact At.head _ | apply At.tail))); infer_instance; exact rfl; exact rfl; exact rfl; exact rfl; clear HO; intro w HO; (simp only [Act.put])) | (first | ((with_reducible apply wpList_boxAgg _ HO rfl); exact rfl; exact rfl; exact rfl; clear HO; intro b1 w HO; (simp only [Act.put, List.setIfInBounds_toArray, List.set_cons_succ, List.set_cons_zero])) | ((with_reducible apply wpList_allocAgg _ HO rfl); exact rfl; infer_instance; exact rfl; clear HO; intro b1 w HO; (simp only [Act.put, List.setIfInBounds_toArray, List.set_cons_succ, List.set_cons_zero]))) | (go_at_call 16; go_must ((with_reducible refine (OR0.out _ _ HO (by repeat (first | exact List.mem_cons_self | apply List.mem_cons_of_mem)) (by repeat (first | exact List.mem_cons_self | apply List.mem_cons_of_mem)) (by repeat (first | exact List.mem_cons_self | apply List.mem_cons_of_mem))).mono ?_); rintro e w ⟨rfl, hb⟩; replace HO := HO.call hb; clear hb)) | (go_at_call 47; go_must ((with_reducible refine (ST _).mono ?_); rintro e w ⟨rfl, hb⟩; replace HO := HO.call hb; clear hb)))
      refine region_sched2 ([box b1 (.cells #[.int .i64 o.id, .string ⟨o.ref.toArray⟩, .string ⟨o.sku.toArray⟩, .int .i64 o.qty, .int .i64 o.amt, .int .i64 t.a, .int .i64 t.b, .int .i64 t.c, .int .i64 t.d, .int .i64 t.e, .int .i64 t.f, .bool t.x] 52), box ac (.cells #[.slice (some q) S.L.length c, .pointer (some ⟨ak, 0, none⟩), .int .i64 A.p0, .int .i64 A.q0, i.v0, .int .i64 A.p1, .int .i64 A.q1, i.v1, .int .i64 A.p2, .int .i64 A.q2, i.v2, i.m] 82)]) [(0, true), (1, true), (2, true), (3, true), (4, true), (5, true), (6, true), (7, true), (8, false)] HO (by with_reducible (repeat (first | exact List.nil_sublist _ | apply List.Sublist.cons_cons | apply List.Sublist.cons))) (by kernel_rfl) (by kernel_rfl) ?_
      clear HO
      intro w HO
      repeat (first | ((with_reducible apply wpSched_loadOne); exact rfl; exact rfl; exact rfl; (repeat (with_reducible (first | exact At.head _ | apply At.tail))); exact rfl; infer_instance; exact rfl; (simp only [Act.put, List.setIfInBounds_toArray, List.set_cons_succ, List.set_cons_zero])) | ((with_reducible apply wpSched_loadAll); exact rfl; exact rfl; exact rfl; (repeat (with_reducible (first | exact At.head _ | apply At.tail))); infer_instance; exact rfl; exact rfl; (simp only [Act.put, List.setIfInBounds_toArray, List.set_cons_succ, List.set_cons_zero])) | ((with_reducible apply wpSched_pure); exact rfl; exact rfl; (intro w'; go_simp; try with_reducible rfl); (simp only [Act.put, List.setIfInBounds_toArray, List.set_cons_succ, List.set_cons_zero])))
      ((with_reducible apply wpSched_loud); exact rfl; ((with_reducible apply wpList_storeRow HO); exact rfl; exact rfl; (first | (simp [Act.eval]; rfl) | exact rfl); exact rfl; (repeat (with_reducible (first | exact At.head _ | apply At.tail))); exact (hsl.out); (simp; omega); exact rfl; infer_instance; exact rfl; exact rfl; clear HO; intro w HO; (simp only [Act.put])))
      refine wpList_nil (thenQ_free (by kernel_rfl) ?_)
      refine wpSched_end ?_
      go_wp2_with fail
      go_ret
      refine ⟨rfl, ?_⟩
      unfold coPs coC
      rw [hset.out]
      exact HO.tail
end Go.Proofs.YtibabfedpdoofaaDoor

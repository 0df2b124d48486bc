/-
  What a saga becomes by being cancelled, by walking both texts; conditions: none. (Printed by wip/mksaga.py.)
-/
import Derived.Test.YtlfphfklcifgpaaDoorSagaD
import Derived.Test.YtlfphfklcifgpaaDoorMem2
namespace Go.Proofs.YtlfphfklcifgpaaDoor
open Go.RowKit Go.Own
theorem stateOf_go (s : D6) (h : stateOf s = 0) : (waitsOf s).2 = true := by
  unfold stateOf at h
  (repeat' split at h) <;> simp_all

set_option maxHeartbeats 8000000 in
set_option maxRecDepth 100000 in
theorem stop_any (o : OrdS) (s : D6) (w : World) : Calls Tryd.prog 57 #[sagaV o s] w fun e w' => e = .returned (stopV o (stopOf s)) ∧ Below w.heap.size w w' := by
  have S := fun w => state_any o s w
  have W := fun w => waits_any o s w
  have hcs := waitsOf_cases s
  have hgo := stateOf_go s
  obtain ⟨a, b, c, d, e, f, x⟩ := s
  rw [(show sagaV o ⟨a, b, c, d, e, f, x⟩ = .agg #[.int .i64 o.id, .string ⟨o.ref.toArray⟩, .string ⟨o.sku.toArray⟩, .int .i64 o.qty, .int .i64 o.amt, .int .i64 a, .int .i64 b, .int .i64 c, .int .i64 d, .int .i64 e, .int .i64 f, .bool x] from rfl)] at S W ⊢
  by_cases hs : stateOf ⟨a, b, c, d, e, f, x⟩ = 0
  rotate_left
  · have HQ := Lib.hid (show stopOf ⟨a, b, c, d, e, f, x⟩ = none by simp [stopOf, hs])
    clear hcs hgo W
    generalize stateOf ⟨a, b, c, d, e, f, x⟩ = q at *
    have hsn : (q != 0) = true := by simpa using hs
    clear hs
    go_enter Tryd.func57, Tryd.ntmps57
    go_wp2_with (go_at_call 32; go_must ((with_reducible refine (S _).mono ?_); rintro e w1 ⟨rfl, hb⟩; obtain ⟨hc, hf⟩ := bcell hb; have hz := hb.size; (try simp at hz); (try have hzT := Nat.lt_of_succ_le hz); have hzA : w.heap.size < w1.heap.size := (by omega); have hzB : w.heap.size + 1 < w1.heap.size := (by omega); have hzA2 := Nat.le_of_lt hzA; have hzB2 := Nat.le_of_lt hzB; have hT := Two.of hb; obtain ⟨k0, k1, k2, k3, k4, k5, k6, k7, k8, k9, k10, k11⟩ := (hT).cells1; have f1 := (hT).f1; obtain ⟨m0, m1, m2, m3, m4, m5, m6, m7, m8, m9, m10, m11⟩ := (hT).cells2; have f2 := (hT).f2; clear hc hf hT))
    refine bodyPost_ret (v := .tuple #[noneV, .int .i64 92]) (by unfold noneV; simp [results, Tryd.results57, go_sem, *]) rfl ⟨by rw [HQ.out]; rfl, (by with_reducible (repeat (first | assumption | exact Below.refl _ _ | refine Below.drew ?_ | refine below_drewN ?_ _ | refine Below.alloc ?_ (by first | (simp; done) | omega | (simp; omega)) _ | refine Below.setCell ?_ (by first | (simp; done) | omega | (simp; omega)) _ | refine Below.trans ?_ (Below.mono (by assumption) (by first | (simp; done) | omega | (simp; omega))))))⟩
  have hv := hgo hs
  clear hgo
  have HS := Lib.hid hs
  rw [hs] at S
  clear hs
  generalize hw : waitsOf ⟨a, b, c, d, e, f, x⟩ = p at *
  obtain ⟨n, v⟩ := p
  simp only at W hcs hv
  subst hv
  rcases hcs with ⟨h0, _⟩ | ⟨_, hcs⟩
  · cases h0
  rcases hcs with rfl | rfl | rfl | rfl | rfl | rfl
  · have HQ := Lib.hid (show stopOf ⟨a, b, c, d, e, f, x⟩ = some (onOf ⟨4, b, c, d, e, f, true⟩) by have h0 := HS.out; simp [stopOf, h0, hw, setD])
    have On := fun w => on_any o ⟨4, b, c, d, e, f, true⟩ w
    generalize onOf ⟨4, b, c, d, e, f, true⟩ = z at *
    simp only [sagaV] at On
    clear hw HS
    go_enter Tryd.func57, Tryd.ntmps57
    go_wp2_with (go_at_call 32; go_must ((with_reducible refine (S _).mono ?_); rintro e w1 ⟨rfl, hb⟩; have hT := Two.of hb; have HB1 := Lib.hid (show Below w.heap.size w w1 from Below.trans (((Below.refl _ _).alloc (Nat.le_refl _) _).alloc (by simp) _) (hb.mono (by simp; omega))); have hz1 := hT.lt; obtain ⟨k0, k1, k2, k3, k4, k5, k6, k7, k8, k9, k10, k11⟩ := (hT).cells1; have f1 := (hT).f1; have HT := Lib.hid hT; clear hT hb))
    go_wp2_with (go_at_call 31; go_must ((with_reducible refine (W _).mono ?_); rintro e w2 ⟨rfl, hb⟩; clear k0 k1 k2 k3 k4 k5 k6 k7 k8 k9 k10 k11 f1; have hT := HT.out.below hb; have HB2 := Lib.hid (HB1.out.trans (hb.mono (by omega))); have hz2 := hT.lt; obtain ⟨k0, k1, k2, k3, k4, k5, k6, k7, k8, k9, k10, k11⟩ := (hT).cells1; have f1 := (hT).f1; have HT2 := Lib.hid hT; clear hT hb))
    go_wp2_with (go_at_call 78; go_must ((with_reducible refine (On _).mono ?_); rintro e w3 ⟨rfl, hb⟩; clear k0 k1 k2 k3 k4 k5 k6 k7 k8 k9 k10 k11 f1; have hT := ((HT2.out.set (k := 5) (by simp) (.int .i64 4)).set (k := 11) (by simp) (.bool true)).below hb; have hW2 := Lib.hid (show Below w.heap.size w w3 from ((HB2.out.setCell (Nat.le_refl _) _).setCell (Nat.le_refl _) _).trans (hb.mono (by simp; omega))); have hz3 := hT.lt; obtain ⟨m0, m1, m2, m3, m4, m5, m6, m7, m8, m9, m10, m11⟩ := (hT).cells2; have f2 := (hT).f2; clear hT hb))
    refine bodyPost_ret (v := .tuple #[sagaV o z, .int .i64 0]) (by unfold sagaV; simp [results, Tryd.results57, go_sem, *]) rfl ⟨by rw [HQ.out]; rfl, ?_⟩
    have hW2 := hW2.out
    (with_reducible repeat (first | assumption | refine Below.setCell ?_ (by first | exact Nat.le_refl _ | omega | (simp; done) | (simp; omega)) _))
  · have HQ := Lib.hid (show stopOf ⟨a, b, c, d, e, f, x⟩ = some (onOf ⟨a, 4, c, d, e, f, true⟩) by have h0 := HS.out; simp [stopOf, h0, hw, setD])
    have On := fun w => on_any o ⟨a, 4, c, d, e, f, true⟩ w
    generalize onOf ⟨a, 4, c, d, e, f, true⟩ = z at *
    simp only [sagaV] at On
    clear hw HS
    go_enter Tryd.func57, Tryd.ntmps57
    go_wp2_with (go_at_call 32; go_must ((with_reducible refine (S _).mono ?_); rintro e w1 ⟨rfl, hb⟩; have hT := Two.of hb; have HB1 := Lib.hid (show Below w.heap.size w w1 from Below.trans (((Below.refl _ _).alloc (Nat.le_refl _) _).alloc (by simp) _) (hb.mono (by simp; omega))); have hz1 := hT.lt; obtain ⟨k0, k1, k2, k3, k4, k5, k6, k7, k8, k9, k10, k11⟩ := (hT).cells1; have f1 := (hT).f1; have HT := Lib.hid hT; clear hT hb))
    go_wp2_with (go_at_call 31; go_must ((with_reducible refine (W _).mono ?_); rintro e w2 ⟨rfl, hb⟩; clear k0 k1 k2 k3 k4 k5 k6 k7 k8 k9 k10 k11 f1; have hT := HT.out.below hb; have HB2 := Lib.hid (HB1.out.trans (hb.mono (by omega))); have hz2 := hT.lt; obtain ⟨k0, k1, k2, k3, k4, k5, k6, k7, k8, k9, k10, k11⟩ := (hT).cells1; have f1 := (hT).f1; have HT2 := Lib.hid hT; clear hT hb))
    go_wp2_with (go_at_call 78; go_must ((with_reducible refine (On _).mono ?_); rintro e w3 ⟨rfl, hb⟩; clear k0 k1 k2 k3 k4 k5 k6 k7 k8 k9 k10 k11 f1; have hT := ((HT2.out.set (k := 6) (by simp) (.int .i64 4)).set (k := 11) (by simp) (.bool true)).below hb; have hW2 := Lib.hid (show Below w.heap.size w w3 from ((HB2.out.setCell (Nat.le_refl _) _).setCell (Nat.le_refl _) _).trans (hb.mono (by simp; omega))); have hz3 := hT.lt; obtain ⟨m0, m1, m2, m3, m4, m5, m6, m7, m8, m9, m10, m11⟩ := (hT).cells2; have f2 := (hT).f2; clear hT hb))
    refine bodyPost_ret (v := .tuple #[sagaV o z, .int .i64 0]) (by unfold sagaV; simp [results, Tryd.results57, go_sem, *]) rfl ⟨by rw [HQ.out]; rfl, ?_⟩
    have hW2 := hW2.out
    (with_reducible repeat (first | assumption | refine Below.setCell ?_ (by first | exact Nat.le_refl _ | omega | (simp; done) | (simp; omega)) _))
  · have HQ := Lib.hid (show stopOf ⟨a, b, c, d, e, f, x⟩ = some (onOf ⟨a, b, 4, d, e, f, true⟩) by have h0 := HS.out; simp [stopOf, h0, hw, setD])
    have On := fun w => on_any o ⟨a, b, 4, d, e, f, true⟩ w
    generalize onOf ⟨a, b, 4, d, e, f, true⟩ = z at *
    simp only [sagaV] at On
    clear hw HS
    go_enter Tryd.func57, Tryd.ntmps57
    go_wp2_with (go_at_call 32; go_must ((with_reducible refine (S _).mono ?_); rintro e w1 ⟨rfl, hb⟩; have hT := Two.of hb; have HB1 := Lib.hid (show Below w.heap.size w w1 from Below.trans (((Below.refl _ _).alloc (Nat.le_refl _) _).alloc (by simp) _) (hb.mono (by simp; omega))); have hz1 := hT.lt; obtain ⟨k0, k1, k2, k3, k4, k5, k6, k7, k8, k9, k10, k11⟩ := (hT).cells1; have f1 := (hT).f1; have HT := Lib.hid hT; clear hT hb))
    go_wp2_with (go_at_call 31; go_must ((with_reducible refine (W _).mono ?_); rintro e w2 ⟨rfl, hb⟩; clear k0 k1 k2 k3 k4 k5 k6 k7 k8 k9 k10 k11 f1; have hT := HT.out.below hb; have HB2 := Lib.hid (HB1.out.trans (hb.mono (by omega))); have hz2 := hT.lt; obtain ⟨k0, k1, k2, k3, k4, k5, k6, k7, k8, k9, k10, k11⟩ := (hT).cells1; have f1 := (hT).f1; have HT2 := Lib.hid hT; clear hT hb))
    go_wp2_with (go_at_call 78; go_must ((with_reducible refine (On _).mono ?_); rintro e w3 ⟨rfl, hb⟩; clear k0 k1 k2 k3 k4 k5 k6 k7 k8 k9 k10 k11 f1; have hT := ((HT2.out.set (k := 7) (by simp) (.int .i64 4)).set (k := 11) (by simp) (.bool true)).below hb; have hW2 := Lib.hid (show Below w.heap.size w w3 from ((HB2.out.setCell (Nat.le_refl _) _).setCell (Nat.le_refl _) _).trans (hb.mono (by simp; omega))); have hz3 := hT.lt; obtain ⟨m0, m1, m2, m3, m4, m5, m6, m7, m8, m9, m10, m11⟩ := (hT).cells2; have f2 := (hT).f2; clear hT hb))
    refine bodyPost_ret (v := .tuple #[sagaV o z, .int .i64 0]) (by unfold sagaV; simp [results, Tryd.results57, go_sem, *]) rfl ⟨by rw [HQ.out]; rfl, ?_⟩
    have hW2 := hW2.out
    (with_reducible repeat (first | assumption | refine Below.setCell ?_ (by first | exact Nat.le_refl _ | omega | (simp; done) | (simp; omega)) _))
  · have HQ := Lib.hid (show stopOf ⟨a, b, c, d, e, f, x⟩ = some (onOf ⟨a, b, c, 4, e, f, true⟩) by have h0 := HS.out; simp [stopOf, h0, hw, setD])
    have On := fun w => on_any o ⟨a, b, c, 4, e, f, true⟩ w
    generalize onOf ⟨a, b, c, 4, e, f, true⟩ = z at *
    simp only [sagaV] at On
    clear hw HS
    go_enter Tryd.func57, Tryd.ntmps57
    go_wp2_with (go_at_call 32; go_must ((with_reducible refine (S _).mono ?_); rintro e w1 ⟨rfl, hb⟩; have hT := Two.of hb; have HB1 := Lib.hid (show Below w.heap.size w w1 from Below.trans (((Below.refl _ _).alloc (Nat.le_refl _) _).alloc (by simp) _) (hb.mono (by simp; omega))); have hz1 := hT.lt; obtain ⟨k0, k1, k2, k3, k4, k5, k6, k7, k8, k9, k10, k11⟩ := (hT).cells1; have f1 := (hT).f1; have HT := Lib.hid hT; clear hT hb))
    go_wp2_with (go_at_call 31; go_must ((with_reducible refine (W _).mono ?_); rintro e w2 ⟨rfl, hb⟩; clear k0 k1 k2 k3 k4 k5 k6 k7 k8 k9 k10 k11 f1; have hT := HT.out.below hb; have HB2 := Lib.hid (HB1.out.trans (hb.mono (by omega))); have hz2 := hT.lt; obtain ⟨k0, k1, k2, k3, k4, k5, k6, k7, k8, k9, k10, k11⟩ := (hT).cells1; have f1 := (hT).f1; have HT2 := Lib.hid hT; clear hT hb))
    go_wp2_with (go_at_call 78; go_must ((with_reducible refine (On _).mono ?_); rintro e w3 ⟨rfl, hb⟩; clear k0 k1 k2 k3 k4 k5 k6 k7 k8 k9 k10 k11 f1; have hT := ((HT2.out.set (k := 8) (by simp) (.int .i64 4)).set (k := 11) (by simp) (.bool true)).below hb; have hW2 := Lib.hid (show Below w.heap.size w w3 from ((HB2.out.setCell (Nat.le_refl _) _).setCell (Nat.le_refl _) _).trans (hb.mono (by simp; omega))); have hz3 := hT.lt; obtain ⟨m0, m1, m2, m3, m4, m5, m6, m7, m8, m9, m10, m11⟩ := (hT).cells2; have f2 := (hT).f2; clear hT hb))
    refine bodyPost_ret (v := .tuple #[sagaV o z, .int .i64 0]) (by unfold sagaV; simp [results, Tryd.results57, go_sem, *]) rfl ⟨by rw [HQ.out]; rfl, ?_⟩
    have hW2 := hW2.out
    (with_reducible repeat (first | assumption | refine Below.setCell ?_ (by first | exact Nat.le_refl _ | omega | (simp; done) | (simp; omega)) _))
  · have HQ := Lib.hid (show stopOf ⟨a, b, c, d, e, f, x⟩ = some (onOf ⟨a, b, c, d, 4, f, true⟩) by have h0 := HS.out; simp [stopOf, h0, hw, setD])
    have On := fun w => on_any o ⟨a, b, c, d, 4, f, true⟩ w
    generalize onOf ⟨a, b, c, d, 4, f, true⟩ = z at *
    simp only [sagaV] at On
    clear hw HS
    go_enter Tryd.func57, Tryd.ntmps57
    go_wp2_with (go_at_call 32; go_must ((with_reducible refine (S _).mono ?_); rintro e w1 ⟨rfl, hb⟩; have hT := Two.of hb; have HB1 := Lib.hid (show Below w.heap.size w w1 from Below.trans (((Below.refl _ _).alloc (Nat.le_refl _) _).alloc (by simp) _) (hb.mono (by simp; omega))); have hz1 := hT.lt; obtain ⟨k0, k1, k2, k3, k4, k5, k6, k7, k8, k9, k10, k11⟩ := (hT).cells1; have f1 := (hT).f1; have HT := Lib.hid hT; clear hT hb))
    go_wp2_with (go_at_call 31; go_must ((with_reducible refine (W _).mono ?_); rintro e w2 ⟨rfl, hb⟩; clear k0 k1 k2 k3 k4 k5 k6 k7 k8 k9 k10 k11 f1; have hT := HT.out.below hb; have HB2 := Lib.hid (HB1.out.trans (hb.mono (by omega))); have hz2 := hT.lt; obtain ⟨k0, k1, k2, k3, k4, k5, k6, k7, k8, k9, k10, k11⟩ := (hT).cells1; have f1 := (hT).f1; have HT2 := Lib.hid hT; clear hT hb))
    go_wp2_with (go_at_call 78; go_must ((with_reducible refine (On _).mono ?_); rintro e w3 ⟨rfl, hb⟩; clear k0 k1 k2 k3 k4 k5 k6 k7 k8 k9 k10 k11 f1; have hT := ((HT2.out.set (k := 9) (by simp) (.int .i64 4)).set (k := 11) (by simp) (.bool true)).below hb; have hW2 := Lib.hid (show Below w.heap.size w w3 from ((HB2.out.setCell (Nat.le_refl _) _).setCell (Nat.le_refl _) _).trans (hb.mono (by simp; omega))); have hz3 := hT.lt; obtain ⟨m0, m1, m2, m3, m4, m5, m6, m7, m8, m9, m10, m11⟩ := (hT).cells2; have f2 := (hT).f2; clear hT hb))
    refine bodyPost_ret (v := .tuple #[sagaV o z, .int .i64 0]) (by unfold sagaV; simp [results, Tryd.results57, go_sem, *]) rfl ⟨by rw [HQ.out]; rfl, ?_⟩
    have hW2 := hW2.out
    (with_reducible repeat (first | assumption | refine Below.setCell ?_ (by first | exact Nat.le_refl _ | omega | (simp; done) | (simp; omega)) _))
  · have HQ := Lib.hid (show stopOf ⟨a, b, c, d, e, f, x⟩ = some (onOf ⟨a, b, c, d, e, 4, true⟩) by have h0 := HS.out; simp [stopOf, h0, hw, setD])
    have On := fun w => on_any o ⟨a, b, c, d, e, 4, true⟩ w
    generalize onOf ⟨a, b, c, d, e, 4, true⟩ = z at *
    simp only [sagaV] at On
    clear hw HS
    go_enter Tryd.func57, Tryd.ntmps57
    go_wp2_with (go_at_call 32; go_must ((with_reducible refine (S _).mono ?_); rintro e w1 ⟨rfl, hb⟩; have hT := Two.of hb; have HB1 := Lib.hid (show Below w.heap.size w w1 from Below.trans (((Below.refl _ _).alloc (Nat.le_refl _) _).alloc (by simp) _) (hb.mono (by simp; omega))); have hz1 := hT.lt; obtain ⟨k0, k1, k2, k3, k4, k5, k6, k7, k8, k9, k10, k11⟩ := (hT).cells1; have f1 := (hT).f1; have HT := Lib.hid hT; clear hT hb))
    go_wp2_with (go_at_call 31; go_must ((with_reducible refine (W _).mono ?_); rintro e w2 ⟨rfl, hb⟩; clear k0 k1 k2 k3 k4 k5 k6 k7 k8 k9 k10 k11 f1; have hT := HT.out.below hb; have HB2 := Lib.hid (HB1.out.trans (hb.mono (by omega))); have hz2 := hT.lt; obtain ⟨k0, k1, k2, k3, k4, k5, k6, k7, k8, k9, k10, k11⟩ := (hT).cells1; have f1 := (hT).f1; have HT2 := Lib.hid hT; clear hT hb))
    go_wp2_with (go_at_call 78; go_must ((with_reducible refine (On _).mono ?_); rintro e w3 ⟨rfl, hb⟩; clear k0 k1 k2 k3 k4 k5 k6 k7 k8 k9 k10 k11 f1; have hT := ((HT2.out.set (k := 10) (by simp) (.int .i64 4)).set (k := 11) (by simp) (.bool true)).below hb; have hW2 := Lib.hid (show Below w.heap.size w w3 from ((HB2.out.setCell (Nat.le_refl _) _).setCell (Nat.le_refl _) _).trans (hb.mono (by simp; omega))); have hz3 := hT.lt; obtain ⟨m0, m1, m2, m3, m4, m5, m6, m7, m8, m9, m10, m11⟩ := (hT).cells2; have f2 := (hT).f2; clear hT hb))
    refine bodyPost_ret (v := .tuple #[sagaV o z, .int .i64 0]) (by unfold sagaV; simp [results, Tryd.results57, go_sem, *]) rfl ⟨by rw [HQ.out]; rfl, ?_⟩
    have hW2 := hW2.out
    (with_reducible repeat (first | assumption | refine Below.setCell ?_ (by first | exact Nat.le_refl _ | omega | (simp; done) | (simp; omega)) _))
end Go.Proofs.YtlfphfklcifgpaaDoor

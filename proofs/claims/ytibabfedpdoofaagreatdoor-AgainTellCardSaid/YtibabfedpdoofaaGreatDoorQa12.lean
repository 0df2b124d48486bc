/-
  What a saga becomes by being cancelled, by walking both texts; conditions: none. (Printed by wip/mksaga.py.)
  The document's core: a reply, by walking its text; conditions: the core is one that entries come to, int64 numbers.
  The document's core: an order is placed, or cancelled, by walking its text; conditions: the core is one that entries come to, int64 numbers.
-/
import Derived.Test.YtibabfedpdoofaaGreatDoorQa1
import Derived.Test.YtibabfedpdoofaaGreatDoorQa7
import Derived.Test.YtibabfedpdoofaaGreatDoorQa8
import Derived.Test.YtibabfedpdoofaaGreatDoorQa11
namespace Go.Proofs.YtibabfedpdoofaaGreatDoor
open Go.RowKit Go.Own

set_option maxHeartbeats 8000000 in
set_option maxRecDepth 100000 in
theorem refStop_any (o : OrdS) (s : D6) (w : World) : Calls Tryz.prog 86 #[sagaV o s] w fun e w' => e = .returned (stopV o (stopOf s)) ∧ Below w.heap.size w w' := by
  have S := fun w => refState_any o s w
  have W := fun w => refWaits_any o s w
  have hcs := waitsOf_cases s
  have hgo := stateOf_go s
  obtain ⟨a, b, c, d, e, f, x⟩ := s
  rw [(show sagaV o ⟨a, b, c, d, e, f, x⟩ = .agg #[.int .i64 o.id, .string ⟨o.ref.toArray⟩, .string ⟨o.sku.toArray⟩, .int .i64 o.qty, .int .i64 o.amt, .int .i64 a, .int .i64 b, .int .i64 c, .int .i64 d, .int .i64 e, .int .i64 f, .bool x] from rfl)] at S W ⊢
  by_cases hs : stateOf ⟨a, b, c, d, e, f, x⟩ = 0
  rotate_left
  · have HQ := Lib.hid (show stopOf ⟨a, b, c, d, e, f, x⟩ = none by simp [stopOf, hs])
    clear hcs hgo W
    generalize stateOf ⟨a, b, c, d, e, f, x⟩ = q at *
    have hsn : (q != 0) = true := by simpa using hs
    clear hs
    go_enter Tryz.func86, Tryz.ntmps86
    go_wp2_with (go_at_call 70; go_must ((with_reducible refine (S _).mono ?_); rintro e w1 ⟨rfl, hb⟩; obtain ⟨hc, hf⟩ := bcell hb; have hz := hb.size; (try simp at hz); (try have hzT := Nat.lt_of_succ_le hz); have hzA : w.heap.size < w1.heap.size := (by omega); have hzB : w.heap.size + 1 < w1.heap.size := (by omega); have hzA2 := Nat.le_of_lt hzA; have hzB2 := Nat.le_of_lt hzB; have hT := Two.of hb; obtain ⟨k0, k1, k2, k3, k4, k5, k6, k7, k8, k9, k10, k11⟩ := (hT).cells1; have f1 := (hT).f1; obtain ⟨m0, m1, m2, m3, m4, m5, m6, m7, m8, m9, m10, m11⟩ := (hT).cells2; have f2 := (hT).f2; clear hc hf hT))
    refine bodyPost_ret (v := .tuple #[noneV, .int .i64 92]) (by unfold noneV; simp [results, Tryz.results86, go_sem, *]) rfl ⟨by rw [HQ.out]; rfl, (by with_reducible (repeat (first | assumption | exact Below.refl _ _ | refine Below.drew ?_ | refine below_drewN ?_ _ | refine Below.alloc ?_ (by first | (simp; done) | omega | (simp; omega)) _ | refine Below.setCell ?_ (by first | (simp; done) | omega | (simp; omega)) _ | refine Below.trans ?_ (Below.mono (by assumption) (by first | (simp; done) | omega | (simp; omega))))))⟩
  have hv := hgo hs
  clear hgo
  have HS := Lib.hid hs
  rw [hs] at S
  clear hs
  generalize hw : waitsOf ⟨a, b, c, d, e, f, x⟩ = p at *
  obtain ⟨n, v⟩ := p
  simp only at W hcs hv
  subst hv
  rcases hcs with ⟨h0, _⟩ | ⟨_, hcs⟩
  · cases h0
  rcases hcs with rfl | rfl | rfl | rfl | rfl | rfl
  · have HQ := Lib.hid (show stopOf ⟨a, b, c, d, e, f, x⟩ = some (onOf ⟨4, b, c, d, e, f, true⟩) by have h0 := HS.out; simp [stopOf, h0, hw, setD])
    have On := fun w => refOn_any o ⟨4, b, c, d, e, f, true⟩ w
    generalize onOf ⟨4, b, c, d, e, f, true⟩ = z at *
    simp only [sagaV] at On
    clear hw HS
    go_enter Tryz.func86, Tryz.ntmps86
    go_wp2_with (go_at_call 70; go_must ((with_reducible refine (S _).mono ?_); rintro e w1 ⟨rfl, hb⟩; have hT := Two.of hb; have HB1 := Lib.hid (show Below w.heap.size w w1 from Below.trans (((Below.refl _ _).alloc (Nat.le_refl _) _).alloc (by simp) _) (hb.mono (by simp; omega))); have hz1 := hT.lt; obtain ⟨k0, k1, k2, k3, k4, k5, k6, k7, k8, k9, k10, k11⟩ := (hT).cells1; have f1 := (hT).f1; have HT := Lib.hid hT; clear hT hb))
    go_wp2_with (go_at_call 118; go_must ((with_reducible refine (W _).mono ?_); rintro e w2 ⟨rfl, hb⟩; clear k0 k1 k2 k3 k4 k5 k6 k7 k8 k9 k10 k11 f1; have hT := HT.out.below hb; have HB2 := Lib.hid (HB1.out.trans (hb.mono (by omega))); have hz2 := hT.lt; obtain ⟨k0, k1, k2, k3, k4, k5, k6, k7, k8, k9, k10, k11⟩ := (hT).cells1; have f1 := (hT).f1; have HT2 := Lib.hid hT; clear hT hb))
    go_wp2_with (go_at_call 133; go_must ((with_reducible refine (On _).mono ?_); rintro e w3 ⟨rfl, hb⟩; clear k0 k1 k2 k3 k4 k5 k6 k7 k8 k9 k10 k11 f1; have hT := ((HT2.out.set (k := 5) (by simp) (.int .i64 4)).set (k := 11) (by simp) (.bool true)).below hb; have hW2 := Lib.hid (show Below w.heap.size w w3 from ((HB2.out.setCell (Nat.le_refl _) _).setCell (Nat.le_refl _) _).trans (hb.mono (by simp; omega))); have hz3 := hT.lt; obtain ⟨m0, m1, m2, m3, m4, m5, m6, m7, m8, m9, m10, m11⟩ := (hT).cells2; have f2 := (hT).f2; clear hT hb))
    refine bodyPost_ret (v := .tuple #[sagaV o z, .int .i64 0]) (by unfold sagaV; simp [results, Tryz.results86, go_sem, *]) rfl ⟨by rw [HQ.out]; rfl, ?_⟩
    have hW2 := hW2.out
    (with_reducible repeat (first | assumption | refine Below.setCell ?_ (by first | exact Nat.le_refl _ | omega | (simp; done) | (simp; omega)) _))
  · have HQ := Lib.hid (show stopOf ⟨a, b, c, d, e, f, x⟩ = some (onOf ⟨a, 4, c, d, e, f, true⟩) by have h0 := HS.out; simp [stopOf, h0, hw, setD])
    have On := fun w => refOn_any o ⟨a, 4, c, d, e, f, true⟩ w
    generalize onOf ⟨a, 4, c, d, e, f, true⟩ = z at *
    simp only [sagaV] at On
    clear hw HS
    go_enter Tryz.func86, Tryz.ntmps86
    go_wp2_with (go_at_call 70; go_must ((with_reducible refine (S _).mono ?_); rintro e w1 ⟨rfl, hb⟩; have hT := Two.of hb; have HB1 := Lib.hid (show Below w.heap.size w w1 from Below.trans (((Below.refl _ _).alloc (Nat.le_refl _) _).alloc (by simp) _) (hb.mono (by simp; omega))); have hz1 := hT.lt; obtain ⟨k0, k1, k2, k3, k4, k5, k6, k7, k8, k9, k10, k11⟩ := (hT).cells1; have f1 := (hT).f1; have HT := Lib.hid hT; clear hT hb))
    go_wp2_with (go_at_call 118; go_must ((with_reducible refine (W _).mono ?_); rintro e w2 ⟨rfl, hb⟩; clear k0 k1 k2 k3 k4 k5 k6 k7 k8 k9 k10 k11 f1; have hT := HT.out.below hb; have HB2 := Lib.hid (HB1.out.trans (hb.mono (by omega))); have hz2 := hT.lt; obtain ⟨k0, k1, k2, k3, k4, k5, k6, k7, k8, k9, k10, k11⟩ := (hT).cells1; have f1 := (hT).f1; have HT2 := Lib.hid hT; clear hT hb))
    go_wp2_with (go_at_call 133; go_must ((with_reducible refine (On _).mono ?_); rintro e w3 ⟨rfl, hb⟩; clear k0 k1 k2 k3 k4 k5 k6 k7 k8 k9 k10 k11 f1; have hT := ((HT2.out.set (k := 6) (by simp) (.int .i64 4)).set (k := 11) (by simp) (.bool true)).below hb; have hW2 := Lib.hid (show Below w.heap.size w w3 from ((HB2.out.setCell (Nat.le_refl _) _).setCell (Nat.le_refl _) _).trans (hb.mono (by simp; omega))); have hz3 := hT.lt; obtain ⟨m0, m1, m2, m3, m4, m5, m6, m7, m8, m9, m10, m11⟩ := (hT).cells2; have f2 := (hT).f2; clear hT hb))
    refine bodyPost_ret (v := .tuple #[sagaV o z, .int .i64 0]) (by unfold sagaV; simp [results, Tryz.results86, go_sem, *]) rfl ⟨by rw [HQ.out]; rfl, ?_⟩
    have hW2 := hW2.out
    (with_reducible repeat (first | assumption | refine Below.setCell ?_ (by first | exact Nat.le_refl _ | omega | (simp; done) | (simp; omega)) _))
  · have HQ := Lib.hid (show stopOf ⟨a, b, c, d, e, f, x⟩ = some (onOf ⟨a, b, 4, d, e, f, true⟩) by have h0 := HS.out; simp [stopOf, h0, hw, setD])
    have On := fun w => refOn_any o ⟨a, b, 4, d, e, f, true⟩ w
    generalize onOf ⟨a, b, 4, d, e, f, true⟩ = z at *
    simp only [sagaV] at On
    clear hw HS
    go_enter Tryz.func86, Tryz.ntmps86
    go_wp2_with (go_at_call 70; go_must ((with_reducible refine (S _).mono ?_); rintro e w1 ⟨rfl, hb⟩; have hT := Two.of hb; have HB1 := Lib.hid (show Below w.heap.size w w1 from Below.trans (((Below.refl _ _).alloc (Nat.le_refl _) _).alloc (by simp) _) (hb.mono (by simp; omega))); have hz1 := hT.lt; obtain ⟨k0, k1, k2, k3, k4, k5, k6, k7, k8, k9, k10, k11⟩ := (hT).cells1; have f1 := (hT).f1; have HT := Lib.hid hT; clear hT hb))
    go_wp2_with (go_at_call 118; go_must ((with_reducible refine (W _).mono ?_); rintro e w2 ⟨rfl, hb⟩; clear k0 k1 k2 k3 k4 k5 k6 k7 k8 k9 k10 k11 f1; have hT := HT.out.below hb; have HB2 := Lib.hid (HB1.out.trans (hb.mono (by omega))); have hz2 := hT.lt; obtain ⟨k0, k1, k2, k3, k4, k5, k6, k7, k8, k9, k10, k11⟩ := (hT).cells1; have f1 := (hT).f1; have HT2 := Lib.hid hT; clear hT hb))
    go_wp2_with (go_at_call 133; go_must ((with_reducible refine (On _).mono ?_); rintro e w3 ⟨rfl, hb⟩; clear k0 k1 k2 k3 k4 k5 k6 k7 k8 k9 k10 k11 f1; have hT := ((HT2.out.set (k := 7) (by simp) (.int .i64 4)).set (k := 11) (by simp) (.bool true)).below hb; have hW2 := Lib.hid (show Below w.heap.size w w3 from ((HB2.out.setCell (Nat.le_refl _) _).setCell (Nat.le_refl _) _).trans (hb.mono (by simp; omega))); have hz3 := hT.lt; obtain ⟨m0, m1, m2, m3, m4, m5, m6, m7, m8, m9, m10, m11⟩ := (hT).cells2; have f2 := (hT).f2; clear hT hb))
    refine bodyPost_ret (v := .tuple #[sagaV o z, .int .i64 0]) (by unfold sagaV; simp [results, Tryz.results86, go_sem, *]) rfl ⟨by rw [HQ.out]; rfl, ?_⟩
    have hW2 := hW2.out
    (with_reducible repeat (first | assumption | refine Below.setCell ?_ (by first | exact Nat.le_refl _ | omega | (simp; done) | (simp; omega)) _))
  · have HQ := Lib.hid (show stopOf ⟨a, b, c, d, e, f, x⟩ = some (onOf ⟨a, b, c, 4, e, f, true⟩) by have h0 := HS.out; simp [stopOf, h0, hw, setD])
    have On := fun w => refOn_any o ⟨a, b, c, 4, e, f, true⟩ w
    generalize onOf ⟨a, b, c, 4, e, f, true⟩ = z at *
    simp only [sagaV] at On
    clear hw HS
    go_enter Tryz.func86, Tryz.ntmps86
    go_wp2_with (go_at_call 70; go_must ((with_reducible refine (S _).mono ?_); rintro e w1 ⟨rfl, hb⟩; have hT := Two.of hb; have HB1 := Lib.hid (show Below w.heap.size w w1 from Below.trans (((Below.refl _ _).alloc (Nat.le_refl _) _).alloc (by simp) _) (hb.mono (by simp; omega))); have hz1 := hT.lt; obtain ⟨k0, k1, k2, k3, k4, k5, k6, k7, k8, k9, k10, k11⟩ := (hT).cells1; have f1 := (hT).f1; have HT := Lib.hid hT; clear hT hb))
    go_wp2_with (go_at_call 118; go_must ((with_reducible refine (W _).mono ?_); rintro e w2 ⟨rfl, hb⟩; clear k0 k1 k2 k3 k4 k5 k6 k7 k8 k9 k10 k11 f1; have hT := HT.out.below hb; have HB2 := Lib.hid (HB1.out.trans (hb.mono (by omega))); have hz2 := hT.lt; obtain ⟨k0, k1, k2, k3, k4, k5, k6, k7, k8, k9, k10, k11⟩ := (hT).cells1; have f1 := (hT).f1; have HT2 := Lib.hid hT; clear hT hb))
    go_wp2_with (go_at_call 133; go_must ((with_reducible refine (On _).mono ?_); rintro e w3 ⟨rfl, hb⟩; clear k0 k1 k2 k3 k4 k5 k6 k7 k8 k9 k10 k11 f1; have hT := ((HT2.out.set (k := 8) (by simp) (.int .i64 4)).set (k := 11) (by simp) (.bool true)).below hb; have hW2 := Lib.hid (show Below w.heap.size w w3 from ((HB2.out.setCell (Nat.le_refl _) _).setCell (Nat.le_refl _) _).trans (hb.mono (by simp; omega))); have hz3 := hT.lt; obtain ⟨m0, m1, m2, m3, m4, m5, m6, m7, m8, m9, m10, m11⟩ := (hT).cells2; have f2 := (hT).f2; clear hT hb))
    refine bodyPost_ret (v := .tuple #[sagaV o z, .int .i64 0]) (by unfold sagaV; simp [results, Tryz.results86, go_sem, *]) rfl ⟨by rw [HQ.out]; rfl, ?_⟩
    have hW2 := hW2.out
    (with_reducible repeat (first | assumption | refine Below.setCell ?_ (by first | exact Nat.le_refl _ | omega | (simp; done) | (simp; omega)) _))
  · have HQ := Lib.hid (show stopOf ⟨a, b, c, d, e, f, x⟩ = some (onOf ⟨a, b, c, d, 4, f, true⟩) by have h0 := HS.out; simp [stopOf, h0, hw, setD])
    have On := fun w => refOn_any o ⟨a, b, c, d, 4, f, true⟩ w
    generalize onOf ⟨a, b, c, d, 4, f, true⟩ = z at *
    simp only [sagaV] at On
    clear hw HS
    go_enter Tryz.func86, Tryz.ntmps86
    go_wp2_with (go_at_call 70; go_must ((with_reducible refine (S _).mono ?_); rintro e w1 ⟨rfl, hb⟩; have hT := Two.of hb; have HB1 := Lib.hid (show Below w.heap.size w w1 from Below.trans (((Below.refl _ _).alloc (Nat.le_refl _) _).alloc (by simp) _) (hb.mono (by simp; omega))); have hz1 := hT.lt; obtain ⟨k0, k1, k2, k3, k4, k5, k6, k7, k8, k9, k10, k11⟩ := (hT).cells1; have f1 := (hT).f1; have HT := Lib.hid hT; clear hT hb))
    go_wp2_with (go_at_call 118; go_must ((with_reducible refine (W _).mono ?_); rintro e w2 ⟨rfl, hb⟩; clear k0 k1 k2 k3 k4 k5 k6 k7 k8 k9 k10 k11 f1; have hT := HT.out.below hb; have HB2 := Lib.hid (HB1.out.trans (hb.mono (by omega))); have hz2 := hT.lt; obtain ⟨k0, k1, k2, k3, k4, k5, k6, k7, k8, k9, k10, k11⟩ := (hT).cells1; have f1 := (hT).f1; have HT2 := Lib.hid hT; clear hT hb))
    go_wp2_with (go_at_call 133; go_must ((with_reducible refine (On _).mono ?_); rintro e w3 ⟨rfl, hb⟩; clear k0 k1 k2 k3 k4 k5 k6 k7 k8 k9 k10 k11 f1; have hT := ((HT2.out.set (k := 9) (by simp) (.int .i64 4)).set (k := 11) (by simp) (.bool true)).below hb; have hW2 := Lib.hid (show Below w.heap.size w w3 from ((HB2.out.setCell (Nat.le_refl _) _).setCell (Nat.le_refl _) _).trans (hb.mono (by simp; omega))); have hz3 := hT.lt; obtain ⟨m0, m1, m2, m3, m4, m5, m6, m7, m8, m9, m10, m11⟩ := (hT).cells2; have f2 := (hT).f2; clear hT hb))
    refine bodyPost_ret (v := .tuple #[sagaV o z, .int .i64 0]) (by unfold sagaV; simp [results, Tryz.results86, go_sem, *]) rfl ⟨by rw [HQ.out]; rfl, ?_⟩
    have hW2 := hW2.out
    (with_reducible repeat (first | assumption | refine Below.setCell ?_ (by first | exact Nat.le_refl _ | omega | (simp; done) | (simp; omega)) _))
  · have HQ := Lib.hid (show stopOf ⟨a, b, c, d, e, f, x⟩ = some (onOf ⟨a, b, c, d, e, 4, true⟩) by have h0 := HS.out; simp [stopOf, h0, hw, setD])
    have On := fun w => refOn_any o ⟨a, b, c, d, e, 4, true⟩ w
    generalize onOf ⟨a, b, c, d, e, 4, true⟩ = z at *
    simp only [sagaV] at On
    clear hw HS
    go_enter Tryz.func86, Tryz.ntmps86
    go_wp2_with (go_at_call 70; go_must ((with_reducible refine (S _).mono ?_); rintro e w1 ⟨rfl, hb⟩; have hT := Two.of hb; have HB1 := Lib.hid (show Below w.heap.size w w1 from Below.trans (((Below.refl _ _).alloc (Nat.le_refl _) _).alloc (by simp) _) (hb.mono (by simp; omega))); have hz1 := hT.lt; obtain ⟨k0, k1, k2, k3, k4, k5, k6, k7, k8, k9, k10, k11⟩ := (hT).cells1; have f1 := (hT).f1; have HT := Lib.hid hT; clear hT hb))
    go_wp2_with (go_at_call 118; go_must ((with_reducible refine (W _).mono ?_); rintro e w2 ⟨rfl, hb⟩; clear k0 k1 k2 k3 k4 k5 k6 k7 k8 k9 k10 k11 f1; have hT := HT.out.below hb; have HB2 := Lib.hid (HB1.out.trans (hb.mono (by omega))); have hz2 := hT.lt; obtain ⟨k0, k1, k2, k3, k4, k5, k6, k7, k8, k9, k10, k11⟩ := (hT).cells1; have f1 := (hT).f1; have HT2 := Lib.hid hT; clear hT hb))
    go_wp2_with (go_at_call 133; go_must ((with_reducible refine (On _).mono ?_); rintro e w3 ⟨rfl, hb⟩; clear k0 k1 k2 k3 k4 k5 k6 k7 k8 k9 k10 k11 f1; have hT := ((HT2.out.set (k := 10) (by simp) (.int .i64 4)).set (k := 11) (by simp) (.bool true)).below hb; have hW2 := Lib.hid (show Below w.heap.size w w3 from ((HB2.out.setCell (Nat.le_refl _) _).setCell (Nat.le_refl _) _).trans (hb.mono (by simp; omega))); have hz3 := hT.lt; obtain ⟨m0, m1, m2, m3, m4, m5, m6, m7, m8, m9, m10, m11⟩ := (hT).cells2; have f2 := (hT).f2; clear hT hb))
    refine bodyPost_ret (v := .tuple #[sagaV o z, .int .i64 0]) (by unfold sagaV; simp [results, Tryz.results86, go_sem, *]) rfl ⟨by rw [HQ.out]; rfl, ?_⟩
    have hW2 := hW2.out
    (with_reducible repeat (first | assumption | refine Below.setCell ?_ (by first | exact Nat.le_refl _ | omega | (simp; done) | (simp; omega)) _))
end Go.Proofs.YtibabfedpdoofaaGreatDoor
namespace Go.Proofs.YtibabfedpdoofaaGreatDoor
open Go.RowKit Go.Own Go.Maps

theorem isL_cell {w : World} {k n c : Nat} {q : Addr} {L : List (List Value)} (h : IsL w k (.slice (some q) n c) L) {j : Nat} (hj : j < L.length) : ∀ i u, L[j][i]? = some u → w.cell? ((q.add (j * k)).add i) = some u := by
  obtain ⟨b, cap, hb, _, _, hR⟩ := h.at (by omega)
  cases hb
  exact fun i u hu => hR.c j hj i u hu

set_option maxHeartbeats 16000000 in
set_option maxRecDepth 100000 in
theorem rcReply_any {W w : World} {M G : List Ent} {x : RcA} {S : CoS} {A : InS} (id d code : Int) (HO : Own W w (rcB x A :: M)) (hG : RcIn W G x S A) (hm : ∀ e ∈ G, e ∈ M) (hid : inI id = true) (hok : CoOk S) (hids : idsOk S.L) (hlen : S.P.length ≤ 99000) :
    Calls Tryz.prog 88 #[.pointer (some ⟨x.r, 0, none⟩), .agg #[.int .i64 id, .int .i64 d], .int .i64 code] w fun e w' => e = .returned (.int .i64 (replyE S.L id d code)) ∧ ∃ (x' : RcA) (N : List Ent), x'.r = x.r ∧ Own W w' (rcB x' A :: (N ++ M)) ∧ RcIn W (N ++ G) x' (rawReplyS S id d code) A := by
  obtain ⟨r, v, u, v0, v1, v2⟩ := x
  obtain ⟨p, c, hv, -⟩ := (hG.at HO (fun e he => List.mem_cons_of_mem _ (hm e he))).l.slice
  simp only at hv
  subst hv
  rw [List.length_map] at HO hG
  have HG := Lib.hid hG
  have hi := inI_iff.1 hid
  unfold rcB rcC at HO
  simp only at HO
  rcases hx : ordAt S.L id with _ | y
  · have hno : id < 1 ∨ (S.L.length : Int) < id := by
      by_cases h : id < 1
      · exact .inl h
      · by_cases h2 : (S.L.length : Int) < id
        · exact .inr h2
        · have := ordAt_yes (L := S.L) (id := id) (j := (id - 1).toNat) (by omega) (by omega)
          rw [hx] at this
          cases this
    rw [show replyE S.L id d code = 4 by unfold replyE; rw [hx], show rawReplyS S id d code = S by unfold rawReplyS; rw [hx]]
    clear hx hi hid hok hlen hG
    by_cases h1 : id < 1
    · have hd1 : decide (id < 1) = true := decide_eq_true h1
      clear hno
      go_enter Tryz.func88, Tryz.ntmps88
      go_upto_region 1 with (first | (first | ((with_reducible apply wpList_boxAgg _ HO rfl); exact rfl; exact rfl; exact rfl; clear HO; intro b4 w HO; (simp only [Act.put, zA, zB, zC])) | ((with_reducible apply wpList_allocAgg _ HO rfl); exact rfl; infer_instance; exact rfl; clear HO; intro b4 w HO; (simp only [Act.put, zA, zB, zC]))))
      refine region_own HO (by kernel_rfl) (by kernel_rfl) ?_
      clear HO
      intro F HF
      repeat (first | (first | (simp only [hd1]) | (first | go_big_quiet_skip | ((with_reducible apply wpQuiet_loadAll HF); exact rfl; exact rfl; (repeat (with_reducible (first | exact At.head _ | apply At.tail))); infer_instance; exact rfl; exact rfl; (simp only [Act.put, zA, zB, zC])) | ((with_reducible apply wpQuiet_loadOne HF); exact rfl; exact rfl; (repeat (with_reducible (first | exact At.head _ | apply At.tail))); exact rfl; infer_instance; exact rfl; (simp only [Act.put, zA, zB, zC])) | ((with_reducible apply wpQuiet_loadPart HF); exact rfl; exact rfl; (repeat (with_reducible (first | exact At.head _ | apply At.tail))); infer_instance; exact (Nat.le_of_ble_eq_true rfl); (simp only [List.drop_succ_cons, List.drop_zero, List.take_succ_cons, List.take_zero]; rfl); exact rfl; (simp only [Act.put, zA, zB, zC])))) | go_big_quiet_step (fail))
      refine wpQuiet_nil ?_
      intro x
      have HO := HF.own x
      clear HF
      generalize F x = w at *
      clear x F
      go_wp2_with fail
      go_ret
      exact ⟨rfl, ⟨r, _, u, v0, v1, v2⟩, [], rfl, HO.tail, HG.out⟩
    · have hd1 : decide (id < 1) = false := decide_eq_false h1
      have hd2 : decide ((S.L.length : Int) < id) = true := decide_eq_true (by omega)
      clear hno
      go_enter Tryz.func88, Tryz.ntmps88
      go_upto_region 1 with (first | (first | ((with_reducible apply wpList_boxAgg _ HO rfl); exact rfl; exact rfl; exact rfl; clear HO; intro b4 w HO; (simp only [Act.put, zA, zB, zC])) | ((with_reducible apply wpList_allocAgg _ HO rfl); exact rfl; infer_instance; exact rfl; clear HO; intro b4 w HO; (simp only [Act.put, zA, zB, zC]))))
      refine region_own HO (by kernel_rfl) (by kernel_rfl) ?_
      clear HO
      intro F HF
      repeat (first | (first | (simp only [hd1]) | (simp only [hd2]) | (first | go_big_quiet_skip | ((with_reducible apply wpQuiet_loadAll HF); exact rfl; exact rfl; (repeat (with_reducible (first | exact At.head _ | apply At.tail))); infer_instance; exact rfl; exact rfl; (simp only [Act.put, zA, zB, zC])) | ((with_reducible apply wpQuiet_loadOne HF); exact rfl; exact rfl; (repeat (with_reducible (first | exact At.head _ | apply At.tail))); exact rfl; infer_instance; exact rfl; (simp only [Act.put, zA, zB, zC])) | ((with_reducible apply wpQuiet_loadPart HF); exact rfl; exact rfl; (repeat (with_reducible (first | exact At.head _ | apply At.tail))); infer_instance; exact (Nat.le_of_ble_eq_true rfl); (simp only [List.drop_succ_cons, List.drop_zero, List.take_succ_cons, List.take_zero]; rfl); exact rfl; (simp only [Act.put, zA, zB, zC])))) | go_big_quiet_step (fail))
      refine wpQuiet_nil ?_
      intro x
      have HO := HF.own x
      clear HF
      generalize F x = w at *
      clear x F
      go_wp2_with fail
      go_ret
      exact ⟨rfl, ⟨r, .slice p S.L.length c, u, v0, v1, v2⟩, rfl, [], HO.tail, HG.out⟩
  · obtain ⟨j, hj, hid2, rfl⟩ := ordAt_some hx
    have hjI : (j : Int) < (S.L.length : Int) := by omega
    have e1 : IntKind.i64.wrap (id - 1) = (j : Int) := by rw [wrap_in (inI_iff.2 (by omega))]; omega
    have e2 : (id - 1).toNat = j := by omega
    have hd1 : decide (id < 1) = false := decide_eq_false (by omega)
    have hd2 : decide ((S.L.length : Int) < id) = false := decide_eq_false (by omega)
    have hoo := hok.ord _ (List.getElem_mem hj)
    have hl60 := hok.len
    have hio := hids j _ (List.getElem?_eq_getElem hj)
    obtain ⟨q, rfl⟩ : ∃ q, p = some q := by
      rcases p with _ | q
      · have := (hG.at HO (fun e he => List.mem_cons_of_mem _ (hm e he))).l.at (by simp; omega)
        obtain ⟨_, _, h, _⟩ := this
        cases h
      · exact ⟨q, rfl⟩
    have HI := Lib.hid (fun (w' : World) (hb : Below W.heap.size W w') (hF : ∀ e ∈ M, e.F w') => isL_cell (hG w' hb (fun e he => hF e (hm e he))).l (j := j) (by simpa using hj))
    simp only [List.getElem_map] at HI
    have HS := Lib.hid (fun (w' : World) (L' : List Ent) (h : Own W w' L') (hM : ∀ e ∈ M, e ∈ L') => (hG.at h (fun e he => hM e (hm e he))).l)
    have HB := Lib.hid (fun (w' : World) (L' : List Ent) (h : Own W w' L') (hM : ∀ e ∈ M, e ∈ L') => (hG.at h (fun e he => hM e (hm e he))).b)
    simp only at HS HB
    rw [show replyE S.L id d code = (match replyOf S.L[j].2 d code with | none => 92 | some _ => 0) by unfold replyE; rw [hx]; first | done | rfl, show rawReplyS S id d code = (match replyOf S.L[j].2 d code with | none => S | some t => ⟨S.L.set j (S.L[j].1, t), rawReply S.P id d (netS S.L[j].1 t - netS S.L[j].1 S.L[j].2)⟩) by unfold rawReplyS; rw [hx]; simp only [sagAt, e2]; first | done | rfl]
    have hn1 := hid2
    have hoid : ordE S.L[j].1 = 0 := hoo
    generalize hy : S.L[j] = y at *
    obtain ⟨o, s⟩ := y
    dsimp only
    have RP := fun w => refReply_any o s d code w
    clear hx hid2 e2
    unfold sagaL at HI
    rcases hst : replyOf s d code with _ | t
    · rw [hst] at RP
      simp only [replyV, noneV, sagaV] at RP
      clear hi hid hok hlen hG hoo hoid hn1 hy HS HB
      go_enter Tryz.func88, Tryz.ntmps88
      go_upto_region 1 with (first | (first | ((with_reducible apply wpList_boxAgg _ HO rfl); exact rfl; exact rfl; exact rfl; clear HO; intro b4 w HO; (simp only [Act.put, zA, zB, zC])) | ((with_reducible apply wpList_allocAgg _ HO rfl); exact rfl; infer_instance; exact rfl; clear HO; intro b4 w HO; (simp only [Act.put, zA, zB, zC]))))
      refine region_own HO (by kernel_rfl) (by kernel_rfl) ?_
      clear HO
      intro F HF
      repeat (first | (first | (simp only [hd1]) | (simp only [hd2]) | (first | go_big_quiet_skip | ((with_reducible apply wpQuiet_loadAll HF); exact rfl; exact rfl; (repeat (with_reducible (first | exact At.head _ | apply At.tail))); infer_instance; exact rfl; exact rfl; (simp only [Act.put, zA, zB, zC])) | ((with_reducible apply wpQuiet_loadOne HF); exact rfl; exact rfl; (repeat (with_reducible (first | exact At.head _ | apply At.tail))); exact rfl; infer_instance; exact rfl; (simp only [Act.put, zA, zB, zC])) | ((with_reducible apply wpQuiet_loadPart HF); exact rfl; exact rfl; (repeat (with_reducible (first | exact At.head _ | apply At.tail))); infer_instance; exact (Nat.le_of_ble_eq_true rfl); (simp only [List.drop_succ_cons, List.drop_zero, List.take_succ_cons, List.take_zero]; rfl); exact rfl; (simp only [Act.put, zA, zB, zC])))) | go_big_quiet_step (fail))
      refine wpQuiet_nil ?_
      intro x
      have HO := HF.own x
      clear HF
      generalize F x = w at *
      clear x F
      go_upto_region 3 with fail
      refine region_schedO ((box b4 (.cells #[.int .i64 id, .int .i64 d] 29) :: box r (.cells #[.slice (some q) S.L.length c, u, .int .i64 A.p0, .int .i64 A.q0, v0, .int .i64 A.p1, .int .i64 A.q1, v1, .int .i64 A.p2, .int .i64 A.q2, v2] 152) :: M)) [(0, true), (1, true), (2, true), (3, true), (4, true), (5, true), (6, true), (7, true), (8, true), (9, false), (10, false)] HO (by with_reducible (repeat (first | exact List.Sublist.refl _ | apply List.Sublist.cons_cons | apply List.Sublist.cons))) (by kernel_rfl) (by kernel_rfl) ?_
      clear HO
      intro w HO
      repeat (first | ((with_reducible apply wpHeld_loadOne); exact rfl; exact rfl; exact rfl; (repeat (with_reducible (first | exact At.head _ | apply At.tail))); exact rfl; infer_instance; exact rfl; (simp only [Act.put, zA, zB, zC])) | ((with_reducible apply wpHeld_loadAll); exact rfl; exact rfl; exact rfl; (repeat (with_reducible (first | exact At.head _ | apply At.tail))); infer_instance; exact rfl; exact rfl; (simp only [Act.put, zA, zB, zC])) | ((with_reducible apply wpHeld_loadAt); exact rfl; exact rfl; exact rfl; exact (fun w' hw => HI.out w' (hw _ List.mem_cons_self) (fun e he => hw _ (.tail _ (.tail _ (.tail _ he))))); infer_instance; exact rfl; exact rfl; (simp only [Act.put, zA, zB, zC])) | ((with_reducible apply wpHeld_pure); exact rfl; exact rfl; (intro w'; go_simp; try with_reducible rfl); (simp only [Act.put, zA, zB, zC])))
      ((with_reducible apply wpHeld_loud); exact rfl; (first | ((with_reducible apply wpList_boxAgg _ HO rfl); exact rfl; exact rfl; exact rfl; clear HO; intro b7 w HO; (simp only [Act.put, zA, zB, zC])) | ((with_reducible apply wpList_allocAgg _ HO rfl); exact rfl; infer_instance; exact rfl; clear HO; intro b7 w HO; (simp only [Act.put, zA, zB, zC])) | ((with_reducible apply wpList_boxOne _ HO rfl); exact rfl; (first | (simp [Act.eval]; rfl) | exact rfl); exact rfl; exact rfl; clear HO; intro b7 w HO; (simp only [Act.put, zA, zB, zC])) | ((with_reducible apply wpList_alloc _ HO rfl); exact rfl; infer_instance; exact rfl; exact rfl; clear HO; intro b7 w HO; (simp only [Act.put, zA, zB, zC]))))
      refine wpList_nil ⟨HO.heldO (by with_reducible (repeat (first | exact List.Sublist.refl _ | apply List.Sublist.cons_cons | apply List.Sublist.cons))), ?_⟩
      ((with_reducible apply wpHeld_loud); exact rfl; ((with_reducible apply wpList_storeAll HO); exact rfl; exact rfl; exact rfl; (repeat (with_reducible (first | exact At.head _ | apply At.tail))); infer_instance; exact rfl; exact rfl; exact rfl; exact rfl; clear HO; intro w HO; (simp only [Act.put])))
      refine wpList_nil ⟨HO.heldO (by with_reducible (repeat (first | exact List.Sublist.refl _ | apply List.Sublist.cons_cons | apply List.Sublist.cons))), ?_⟩
      refine wpHeld_end ?_
      go_wp2_with (first | go_big_skip | (first | go_big_skip | ((with_reducible apply wpList_loadAll HO); exact rfl; exact rfl; (repeat (with_reducible (first | exact At.head _ | apply At.tail))); infer_instance; exact rfl; exact rfl; (simp only [Act.put, zA, zB, zC])) | ((with_reducible apply wpList_loadOne HO); exact rfl; exact rfl; (repeat (with_reducible (first | exact At.head _ | apply At.tail))); exact rfl; infer_instance; exact rfl; (simp only [Act.put, zA, zB, zC]))) | ((with_reducible apply wpList_storeAll HO); exact rfl; exact rfl; exact rfl; (repeat (with_reducible (first | exact At.head _ | apply At.tail))); infer_instance; exact rfl; exact rfl; exact rfl; exact rfl; clear HO; intro w HO; (simp only [Act.put])) | (first | ((with_reducible apply wpList_boxAgg _ HO rfl); exact rfl; exact rfl; exact rfl; clear HO; intro b8 w HO; (simp only [Act.put, zA, zB, zC])) | ((with_reducible apply wpList_allocAgg _ HO rfl); exact rfl; infer_instance; exact rfl; clear HO; intro b8 w HO; (simp only [Act.put, zA, zB, zC]))) | (go_at_call 134; go_must ((with_reducible refine (RP _).mono ?_); rintro e w ⟨rfl, hb⟩; replace HO := HO.call hb; clear hb)))
      go_ret
      first | exact ⟨rfl, ⟨r, .slice (some q) S.L.length c, u, v0, v1, v2⟩, rfl, [], HO.tail.tail.tail, HG.out⟩ | exact ⟨rfl, ⟨r, .slice (some q) S.L.length c, u, v0, v1, v2⟩, [], rfl, HO.tail.tail.tail, HG.out⟩
    · rw [hst] at RP
      simp only [replyV, sagaV] at RP
      dsimp only
      have hd := replyOf_deed hst
      have KP := fun w => refKeyPut_any (o := id) (d := d) (by simp only [keyOk, isDeed, Bool.and_eq_true, decide_eq_true_eq]; omega) w
      have NT := fun w => refSagaNet_any o t w
      have NS := fun w => refSagaNet_any o s w
      have n1 := netS_bound hoid t
      have n2 := netS_bound hoid s
      simp only at hio
      have hlen' : S.P.length ≤ 100000 := by omega
      have hl1000 : S.L.length ≤ 1000 := by omega
      have hp3 := fun (a b c X : Ent) => (List.perm_append_comm (l₁ := [a, b, c]) (l₂ := [X])).append_right M
      have HR := Lib.hid (fun P => show rawReply P id d (netS o t - netS o s) = if 0 < netS o t - netS o s then P ++ [⟨putK id d, id, 1, 0, netS o t - netS o s⟩] else if netS o t - netS o s < 0 then P ++ [⟨putK id d, id, 3, 1, -(netS o t - netS o s)⟩] else P from rfl)
      have ST0 := (fun (w : World) (a b e : Ent) (h : Own W w (a :: b :: e :: rcB ⟨r, .slice (some q) S.L.length c, u, v0, v1, v2⟩ A :: M)) => rcSet_any (L := S.L) o t (M := a :: b :: e :: M) (h.perm (hp3 a b e _)) (fun w' L' h hM => HS.out w' L' h (fun e he => hM e (.tail _ (.tail _ (.tail _ he))))) hio hj hl1000)
      unfold sagaV at ST0
      have ST := Lib.hid ST0
      clear ST0
      have hm1 : ∀ (a b c : Ent), ∀ e ∈ M, e ∈ a :: b :: c :: M := fun a b c e he => .tail _ (.tail _ (.tail _ he))
      simp only [sagaV] at NT NS
      generalize netS o t = nt at *
      generalize netS o s = ns at *
      clear hi hoo hoid hy hst hok hG hids hn1 hio hd
      go_enter Tryz.func88, Tryz.ntmps88
      go_upto_region 1 with (first | (first | ((with_reducible apply wpList_boxAgg _ HO rfl); exact rfl; exact rfl; exact rfl; clear HO; intro b4 w HO; (simp only [Act.put, zA, zB, zC])) | ((with_reducible apply wpList_allocAgg _ HO rfl); exact rfl; infer_instance; exact rfl; clear HO; intro b4 w HO; (simp only [Act.put, zA, zB, zC]))))
      refine region_own HO (by kernel_rfl) (by kernel_rfl) ?_
      clear HO
      intro F HF
      repeat (first | (first | (simp only [hd1]) | (simp only [hd2]) | (first | go_big_quiet_skip | ((with_reducible apply wpQuiet_loadAll HF); exact rfl; exact rfl; (repeat (with_reducible (first | exact At.head _ | apply At.tail))); infer_instance; exact rfl; exact rfl; (simp only [Act.put, zA, zB, zC])) | ((with_reducible apply wpQuiet_loadOne HF); exact rfl; exact rfl; (repeat (with_reducible (first | exact At.head _ | apply At.tail))); exact rfl; infer_instance; exact rfl; (simp only [Act.put, zA, zB, zC])) | ((with_reducible apply wpQuiet_loadPart HF); exact rfl; exact rfl; (repeat (with_reducible (first | exact At.head _ | apply At.tail))); infer_instance; exact (Nat.le_of_ble_eq_true rfl); (simp only [List.drop_succ_cons, List.drop_zero, List.take_succ_cons, List.take_zero]; rfl); exact rfl; (simp only [Act.put, zA, zB, zC])))) | go_big_quiet_step (fail))
      refine wpQuiet_nil ?_
      intro x
      have HO := HF.own x
      clear HF
      generalize F x = w at *
      clear x F
      go_upto_region 3 with fail
      refine region_schedO ((box b4 (.cells #[.int .i64 id, .int .i64 d] 29) :: box r (.cells #[.slice (some q) S.L.length c, u, .int .i64 A.p0, .int .i64 A.q0, v0, .int .i64 A.p1, .int .i64 A.q1, v1, .int .i64 A.p2, .int .i64 A.q2, v2] 152) :: M)) [(0, true), (1, true), (2, true), (3, true), (4, true), (5, true), (6, true), (7, true), (8, true), (9, false), (10, false)] HO (by with_reducible (repeat (first | exact List.Sublist.refl _ | apply List.Sublist.cons_cons | apply List.Sublist.cons))) (by kernel_rfl) (by kernel_rfl) ?_
      clear HO
      intro w HO
      repeat (first | ((with_reducible apply wpHeld_loadOne); exact rfl; exact rfl; exact rfl; (repeat (with_reducible (first | exact At.head _ | apply At.tail))); exact rfl; infer_instance; exact rfl; (simp only [Act.put, zA, zB, zC])) | ((with_reducible apply wpHeld_loadAll); exact rfl; exact rfl; exact rfl; (repeat (with_reducible (first | exact At.head _ | apply At.tail))); infer_instance; exact rfl; exact rfl; (simp only [Act.put, zA, zB, zC])) | ((with_reducible apply wpHeld_loadAt); exact rfl; exact rfl; exact rfl; exact (fun w' hw => HI.out w' (hw _ List.mem_cons_self) (fun e he => hw _ (.tail _ (.tail _ (.tail _ he))))); infer_instance; exact rfl; exact rfl; (simp only [Act.put, zA, zB, zC])) | ((with_reducible apply wpHeld_pure); exact rfl; exact rfl; (intro w'; go_simp; try with_reducible rfl); (simp only [Act.put, zA, zB, zC])))
      ((with_reducible apply wpHeld_loud); exact rfl; (first | ((with_reducible apply wpList_boxAgg _ HO rfl); exact rfl; exact rfl; exact rfl; clear HO; intro b7 w HO; (simp only [Act.put, zA, zB, zC])) | ((with_reducible apply wpList_allocAgg _ HO rfl); exact rfl; infer_instance; exact rfl; clear HO; intro b7 w HO; (simp only [Act.put, zA, zB, zC])) | ((with_reducible apply wpList_boxOne _ HO rfl); exact rfl; (first | (simp [Act.eval]; rfl) | exact rfl); exact rfl; exact rfl; clear HO; intro b7 w HO; (simp only [Act.put, zA, zB, zC])) | ((with_reducible apply wpList_alloc _ HO rfl); exact rfl; infer_instance; exact rfl; exact rfl; clear HO; intro b7 w HO; (simp only [Act.put, zA, zB, zC]))))
      refine wpList_nil ⟨HO.heldO (by with_reducible (repeat (first | exact List.Sublist.refl _ | apply List.Sublist.cons_cons | apply List.Sublist.cons))), ?_⟩
      ((with_reducible apply wpHeld_loud); exact rfl; ((with_reducible apply wpList_storeAll HO); exact rfl; exact rfl; exact rfl; (repeat (with_reducible (first | exact At.head _ | apply At.tail))); infer_instance; exact rfl; exact rfl; exact rfl; exact rfl; clear HO; intro w HO; (simp only [Act.put])))
      refine wpList_nil ⟨HO.heldO (by with_reducible (repeat (first | exact List.Sublist.refl _ | apply List.Sublist.cons_cons | apply List.Sublist.cons))), ?_⟩
      refine wpHeld_end ?_
      go_upto_region 8 with (first | go_big_skip | (first | go_big_skip | ((with_reducible apply wpList_loadAll HO); exact rfl; exact rfl; (repeat (with_reducible (first | exact At.head _ | apply At.tail))); infer_instance; exact rfl; exact rfl; (simp only [Act.put, zA, zB, zC])) | ((with_reducible apply wpList_loadOne HO); exact rfl; exact rfl; (repeat (with_reducible (first | exact At.head _ | apply At.tail))); exact rfl; infer_instance; exact rfl; (simp only [Act.put, zA, zB, zC]))) | ((with_reducible apply wpList_storeAll HO); exact rfl; exact rfl; exact rfl; (repeat (with_reducible (first | exact At.head _ | apply At.tail))); infer_instance; exact rfl; exact rfl; exact rfl; exact rfl; clear HO; intro w HO; (simp only [Act.put])) | (first | ((with_reducible apply wpList_boxAgg _ HO rfl); exact rfl; exact rfl; exact rfl; clear HO; intro b8 w HO; (simp only [Act.put, zA, zB, zC])) | ((with_reducible apply wpList_allocAgg _ HO rfl); exact rfl; infer_instance; exact rfl; clear HO; intro b8 w HO; (simp only [Act.put, zA, zB, zC]))) | (go_at_call 134; go_must ((with_reducible refine (RP _).mono ?_); rintro e w ⟨rfl, hb⟩; replace HO := HO.call hb; clear hb)) | (go_at_call 87; go_must ((have h9 := ST.out _ _ _ _ HO); (with_reducible refine h9.mono ?_); clear h9 HO; rintro e w ⟨rfl, v9, HO⟩)))
      refine region_own HO (by kernel_rfl) (by kernel_rfl) ?_
      clear HO
      intro F HF
      repeat (first | (first | go_big_quiet_skip | ((with_reducible apply wpQuiet_loadAll HF); exact rfl; exact rfl; (repeat (with_reducible (first | exact At.head _ | apply At.tail))); infer_instance; exact rfl; exact rfl; (simp only [Act.put, zA, zB, zC])) | ((with_reducible apply wpQuiet_loadOne HF); exact rfl; exact rfl; (repeat (with_reducible (first | exact At.head _ | apply At.tail))); exact rfl; infer_instance; exact rfl; (simp only [Act.put, zA, zB, zC])) | ((with_reducible apply wpQuiet_loadPart HF); exact rfl; exact rfl; (repeat (with_reducible (first | exact At.head _ | apply At.tail))); infer_instance; exact (Nat.le_of_ble_eq_true rfl); (simp only [List.drop_succ_cons, List.drop_zero, List.take_succ_cons, List.take_zero]; rfl); exact rfl; (simp only [Act.put, zA, zB, zC]))) | go_big_quiet_step ((go_at_call 76; first | (with_reducible exact calls_fam HF (NT _)) | (with_reducible exact calls_fam HF (NS _)))))
      refine wpQuiet_nil ?_
      intro x
      have HO := HF.own x
      clear HF
      generalize F x = w at *
      clear x F
      by_cases c1 : ns < nt
      · go_upto_region 10 with fail
        refine region_sched2 ([box b4 (.cells #[.int .i64 id, .int .i64 d] 29)]) [(0, true), (1, true), (3, true), (4, true), (5, true), (6, true), (7, true), (2, false), (8, false)] HO (by with_reducible (repeat (first | exact List.nil_sublist _ | apply List.Sublist.cons_cons | apply List.Sublist.cons))) (by kernel_rfl) (by kernel_rfl) ?_
        clear HO
        intro w HO
        repeat (first | ((with_reducible apply wpSched_loadOne); exact rfl; exact rfl; exact rfl; (repeat (with_reducible (first | exact At.head _ | apply At.tail))); exact rfl; infer_instance; exact rfl; (simp only [Act.put, zA, zB, zC])) | ((with_reducible apply wpSched_loadAll); exact rfl; exact rfl; exact rfl; (repeat (with_reducible (first | exact At.head _ | apply At.tail))); infer_instance; exact rfl; exact rfl; (simp only [Act.put, zA, zB, zC])) | ((with_reducible apply wpSched_pure); exact rfl; exact rfl; (intro w'; go_simp; try with_reducible rfl); (simp only [Act.put, zA, zB, zC])))
        ((with_reducible apply wpSched_loud); exact rfl; go_wp2_with ((go_at_call 135; go_must ((with_reducible refine (KP _).mono ?_); rintro e w ⟨rfl, hb⟩; replace HO := HO.call hb; clear hb))))
        refine thenQ_keep (HO.held (by with_reducible (repeat (first | exact List.nil_sublist _ | apply List.Sublist.cons_cons | apply List.Sublist.cons)))) ?_
        repeat (first | ((with_reducible apply wpSched_loadOne); exact rfl; exact rfl; exact rfl; (repeat (with_reducible (first | exact At.head _ | apply At.tail))); exact rfl; infer_instance; exact rfl; (simp only [Act.put, zA, zB, zC])) | ((with_reducible apply wpSched_loadAll); exact rfl; exact rfl; exact rfl; (repeat (with_reducible (first | exact At.head _ | apply At.tail))); infer_instance; exact rfl; exact rfl; (simp only [Act.put, zA, zB, zC])) | ((with_reducible apply wpSched_pure); exact rfl; exact rfl; (intro w'; go_simp; try with_reducible rfl); (simp only [Act.put, zA, zB, zC])))
        ((with_reducible apply wpSched_loud); exact rfl; go_wp2_with ((go_at_call 92; go_must ((have h9 := rcPost_any (P := S.P) (putK id d) id 1 0 (nt - ns) HO (fun w' L' h hM => HB.out w' L' h (fun e he => hM e (.tail _ (.tail _ (.tail _ (.tail _ he)))))) hlen'); (with_reducible refine h9.mono ?_); clear h9 HO; rintro e w ⟨rfl, u9, HO⟩))))
        refine thenQ_free (by kernel_rfl) ?_
        refine wpSched_end ?_
        go_wp2_with fail
        go_ret
        have h7 : RcIn W (row 187 5 u9 ((S.P ++ [(⟨putK id d, id, 1, 0, nt - ns⟩ : Pst)]).map pstC) :: row 124 12 v9 ((S.L.set j (o, t)).map sagaL) :: G) ⟨r, v9, u9, v0, v1, v2⟩ ⟨S.L.set j (o, t), S.P ++ [(⟨putK id d, id, 1, 0, nt - ns⟩ : Pst)]⟩ A := (HG.out.setL v9 (S.L.set j (o, t)) _).setP u9 _ _
        have h8 := fun (a b e : Ent) => h7.mono (H := [row 187 5 u9 ((S.P ++ [(⟨putK id d, id, 1, 0, nt - ns⟩ : Pst)]).map pstC), row 124 12 v9 ((S.L.set j (o, t)).map sagaL), a, b, e] ++ G) (fun e he => by
          rcases List.mem_cons.1 he with rfl | he
          · exact List.mem_cons_self
          · rcases List.mem_cons.1 he with rfl | he
            · exact .tail _ (.head _)
            · exact .tail _ (.tail _ (.tail _ (.tail _ (.tail _ he)))))
        rw [show rawReply S.P id d (nt - ns) = S.P ++ [(⟨putK id d, id, 1, 0, nt - ns⟩ : Pst)] from (HR.out S.P).trans (if_pos (by omega))]
        first | exact ⟨rfl, ⟨r, v9, u9, v0, v1, v2⟩, rfl, _, HO, h8 _ _ _⟩ | exact ⟨rfl, ⟨r, v9, u9, v0, v1, v2⟩, _, rfl, HO, h8 _ _ _⟩
      by_cases c2 : nt < ns
      · go_upto_region 12 with fail
        refine region_sched2 ([box b4 (.cells #[.int .i64 id, .int .i64 d] 29)]) [(0, true), (1, true), (3, true), (4, true), (5, true), (6, true), (7, true), (2, false), (8, false)] HO (by with_reducible (repeat (first | exact List.nil_sublist _ | apply List.Sublist.cons_cons | apply List.Sublist.cons))) (by kernel_rfl) (by kernel_rfl) ?_
        clear HO
        intro w HO
        repeat (first | ((with_reducible apply wpSched_loadOne); exact rfl; exact rfl; exact rfl; (repeat (with_reducible (first | exact At.head _ | apply At.tail))); exact rfl; infer_instance; exact rfl; (simp only [Act.put, zA, zB, zC])) | ((with_reducible apply wpSched_loadAll); exact rfl; exact rfl; exact rfl; (repeat (with_reducible (first | exact At.head _ | apply At.tail))); infer_instance; exact rfl; exact rfl; (simp only [Act.put, zA, zB, zC])) | ((with_reducible apply wpSched_pure); exact rfl; exact rfl; (intro w'; go_simp; try with_reducible rfl); (simp only [Act.put, zA, zB, zC])))
        ((with_reducible apply wpSched_loud); exact rfl; go_wp2_with ((go_at_call 135; go_must ((with_reducible refine (KP _).mono ?_); rintro e w ⟨rfl, hb⟩; replace HO := HO.call hb; clear hb))))
        refine thenQ_keep (HO.held (by with_reducible (repeat (first | exact List.nil_sublist _ | apply List.Sublist.cons_cons | apply List.Sublist.cons)))) ?_
        repeat (first | ((with_reducible apply wpSched_loadOne); exact rfl; exact rfl; exact rfl; (repeat (with_reducible (first | exact At.head _ | apply At.tail))); exact rfl; infer_instance; exact rfl; (simp only [Act.put, zA, zB, zC])) | ((with_reducible apply wpSched_loadAll); exact rfl; exact rfl; exact rfl; (repeat (with_reducible (first | exact At.head _ | apply At.tail))); infer_instance; exact rfl; exact rfl; (simp only [Act.put, zA, zB, zC])) | ((with_reducible apply wpSched_pure); exact rfl; exact rfl; (intro w'; go_simp; try with_reducible rfl); (simp only [Act.put, zA, zB, zC])))
        ((with_reducible apply wpSched_loud); exact rfl; go_wp2_with ((go_at_call 92; go_must ((have h9 := rcPost_any (P := S.P) (putK id d) id 3 1 (ns - nt) HO (fun w' L' h hM => HB.out w' L' h (fun e he => hM e (.tail _ (.tail _ (.tail _ (.tail _ he)))))) hlen'); (with_reducible refine h9.mono ?_); clear h9 HO; rintro e w ⟨rfl, u9, HO⟩))))
        refine thenQ_free (by kernel_rfl) ?_
        refine wpSched_end ?_
        go_wp2_with fail
        go_ret
        have h7 : RcIn W (row 187 5 u9 ((S.P ++ [(⟨putK id d, id, 3, 1, ns - nt⟩ : Pst)]).map pstC) :: row 124 12 v9 ((S.L.set j (o, t)).map sagaL) :: G) ⟨r, v9, u9, v0, v1, v2⟩ ⟨S.L.set j (o, t), S.P ++ [(⟨putK id d, id, 3, 1, ns - nt⟩ : Pst)]⟩ A := (HG.out.setL v9 (S.L.set j (o, t)) _).setP u9 _ _
        have h8 := fun (a b e : Ent) => h7.mono (H := [row 187 5 u9 ((S.P ++ [(⟨putK id d, id, 3, 1, ns - nt⟩ : Pst)]).map pstC), row 124 12 v9 ((S.L.set j (o, t)).map sagaL), a, b, e] ++ G) (fun e he => by
          rcases List.mem_cons.1 he with rfl | he
          · exact List.mem_cons_self
          · rcases List.mem_cons.1 he with rfl | he
            · exact .tail _ (.head _)
            · exact .tail _ (.tail _ (.tail _ (.tail _ (.tail _ he)))))
        rw [show rawReply S.P id d (nt - ns) = S.P ++ [(⟨putK id d, id, 3, 1, ns - nt⟩ : Pst)] from (HR.out S.P).trans (by rw [if_neg (by omega), if_pos (by omega), Int.neg_sub])]
        first | exact ⟨rfl, ⟨r, v9, u9, v0, v1, v2⟩, rfl, _, HO, h8 _ _ _⟩ | exact ⟨rfl, ⟨r, v9, u9, v0, v1, v2⟩, _, rfl, HO, h8 _ _ _⟩
      go_wp2_with fail
      go_ret
      have h7 : RcIn W (row 124 12 v9 ((S.L.set j (o, t)).map sagaL) :: G) ⟨r, v9, u, v0, v1, v2⟩ ⟨S.L.set j (o, t), S.P⟩ A := HG.out.setL v9 (S.L.set j (o, t)) _
      have h8 := fun (a b e : Ent) => h7.mono (H := [row 124 12 v9 ((S.L.set j (o, t)).map sagaL), a, b, e] ++ G) (fun e he => by
        rcases List.mem_cons.1 he with rfl | he
        · exact List.mem_cons_self
        · exact .tail _ (.tail _ (.tail _ (.tail _ he))))
      rw [show rawReply S.P id d (nt - ns) = S.P from (HR.out S.P).trans (by rw [if_neg (by omega), if_neg (by omega)])]
      first | exact ⟨rfl, ⟨r, v9, u, v0, v1, v2⟩, rfl, _, HO, h8 _ _ _⟩ | exact ⟨rfl, ⟨r, v9, u, v0, v1, v2⟩, _, rfl, HO, h8 _ _ _⟩
end Go.Proofs.YtibabfedpdoofaaGreatDoor
namespace Go.Proofs.YtibabfedpdoofaaGreatDoor
open Go.RowKit Go.Own Go.Maps

/-- Entries as they come. -/
structure EntF (W : World) (G : List Ent) (x : EntS) (v : Value) : Prop where
  rows : RowsF W G v x.rs
  ref : x.ref.length ≤ maxLen
  sku : x.sku.length ≤ maxLen
  o : inI x.o = true
theorem EntF.into {W : World} {G M : List Ent} {x : EntS} {v : Value} (h : EntF W G x v) (hm : ∀ e ∈ G, e ∈ M) : EntW W M x v := ⟨h.rows.into hm, h.ref, h.sku, h.o⟩
theorem boxAt_of {W w : World} {L : List Ent} {b : Nat} {o : Obj} (h : Own W w L) (hm : box b o ∈ L) : w.heap[b]? = some o := h.has _ hm

set_option maxHeartbeats 16000000 in
set_option maxRecDepth 100000 in
theorem rcApp1_any {W w : World} {M G : List Ent} {x : RcA} {S : CoS} {A : InS} {v9 : Value} (y : EntS) (HO : Own W w (rcB x A :: M)) (hG : RcIn W G x S A) (hm : ∀ e ∈ G, e ∈ M) (hy : EntF W G y v9) (hok : CoOk S) (hk : y.k = 1) :
    Calls Tryz.prog 28 #[.pointer (some ⟨x.r, 0, none⟩), .agg #[.int .i64 (y).k, .int .i64 (y).id, .string ⟨(y).ref.toArray⟩, .string ⟨(y).sku.toArray⟩, .int .i64 (y).qty, .int .i64 (y).amt, .int .i64 (y).o, .int .i64 (y).d, .int .i64 (y).c, .int .i64 (y).p, .int .i64 (y).q, v9]] w fun e w' => e = .returned (.int .i64 (placeE S.L y.ord)) ∧ ∃ (x' : RcA) (N : List Ent), x'.r = x.r ∧ Own W w' (rcB x' A :: (N ++ M)) ∧ RcIn W (N ++ G) x' { S with L := placeL S.L y.ord } A := by
  obtain ⟨yk, yid, yref, ysku, yq, ya, yo, yd, yc, yp, yqq, yrs⟩ := y
  simp only at hk
  subst hk
  change Calls Tryz.prog 28 _ w fun e w' => e = .returned (.int .i64 (placeE S.L ⟨yid, yref, ysku, yq, ya⟩)) ∧ ∃ (x' : RcA) (N : List Ent), x'.r = x.r ∧ Own W w' (rcB x' A :: (N ++ M)) ∧ RcIn W (N ++ G) x' { S with L := placeL S.L ⟨yid, yref, ysku, yq, ya⟩ } A
  have OC := fun w => refOrdCheck_any yid yref ysku yq ya w hy.ref hy.sku
  have BG := fun w => refBegin_any ⟨yid, yref, ysku, yq, ya⟩ w
  have hl60 := hok.len
  have hu := (hy.rows w HO.grown (fun e he => HO.has _ (.tail _ (hm e he)))).slice
  obtain ⟨vp, vc, rfl, -⟩ := hu
  obtain ⟨r, v, u, v0, v1, v2⟩ := x
  obtain ⟨p, c, hv, -⟩ := (hG.at HO (fun e he => List.mem_cons_of_mem _ (hm e he))).l.slice
  simp only at hv
  subst hv
  rw [List.length_map] at HO hG
  have HG := Lib.hid hG
  have HL := Lib.hid (sagaL_len S.L)
  have H1 := Lib.hid (sagaL_one S.L)
  have hlm : ([] : List (List Value)).length + (S.L.map sagaL).length ≤ 1000000 := by rw [List.length_map]; simp; omega
  have hlm2 : ([] ++ S.L.map sagaL).length + 1 ≤ 1000000 := by rw [List.nil_append, List.length_map]; omega
  have HU := Lib.hid (fun (w' : World) (L' : List Ent) (h : Own W w' L') (hM : ∀ e ∈ M, e ∈ L') => (hG.at h (fun e he => hM e (hm e he))).l)
  have HS := fun (w' : World) (L' : List Ent) (h : Own W w' L') (hM : ∀ e ∈ M, e ∈ L') (hb : rcB ⟨r, .slice p S.L.length c, u, v0, v1, v2⟩ A ∈ L') => rcHas_any (S := S) (boxAt_of h hb) (hG.at h (fun e he => hM e (hm e he))) yref
  unfold rcB rcC at HS HO
  simp only at HS HO HU
  have HS0 := Lib.hid HS
  have HE := Lib.hid (show placeE S.L ⟨yid, yref, ysku, yq, ya⟩ = if ordE ⟨yid, yref, ysku, yq, ya⟩ ≠ 0 then ordE ⟨yid, yref, ysku, yq, ya⟩ else if hasL S.L yref = true then 91 else if 60 ≤ S.L.length then 60 else if yid ≠ (S.L.length : Int) + 1 then 2 else 0 from rfl)
  have HP := Lib.hid (show placeL S.L ⟨yid, yref, ysku, yq, ya⟩ = if placeE S.L ⟨yid, yref, ysku, yq, ya⟩ = 0 then S.L ++ [(⟨yid, yref, ysku, yq, ya⟩, beginD)] else S.L from rfl)
  change ∀ w, Calls Tryz.prog 83 _ w fun e w' => e = .returned (.int .i64 (ordE ⟨yid, yref, ysku, yq, ya⟩)) ∧ Below w.heap.size w w' at OC
  unfold ordV sagaV at BG
  clear HS hy hG hok
  generalize placeL S.L ⟨yid, yref, ysku, yq, ya⟩ = Lx at *
  generalize placeE S.L ⟨yid, yref, ysku, yq, ya⟩ = ex at *
  generalize ordE ⟨yid, yref, ysku, yq, ya⟩ = eo at *
  generalize hasL S.L yref = hs at *
  by_cases c1 : eo = 0
  rotate_left
  · rw [if_pos c1] at HE
    obtain rfl := HE.out
    rw [if_neg c1] at HP
    obtain rfl := HP.out
    go_enter Tryz.func28, Tryz.ntmps28
    go_wp2_with (first | go_big_skip | (first | go_big_skip | ((with_reducible apply wpList_loadAll HO); exact rfl; exact rfl; (repeat (with_reducible (first | exact At.head _ | apply At.tail))); infer_instance; exact rfl; exact rfl; (simp only [Act.put, zA, zB, zC])) | ((with_reducible apply wpList_loadOne HO); exact rfl; exact rfl; (repeat (with_reducible (first | exact At.head _ | apply At.tail))); exact rfl; infer_instance; exact rfl; (simp only [Act.put, zA, zB, zC]))) | ((with_reducible apply wpList_loadPart HO); exact rfl; exact rfl; (repeat (with_reducible (first | exact At.head _ | apply At.tail))); infer_instance; exact (Nat.le_of_ble_eq_true rfl); (simp only [List.drop_succ_cons, List.drop_zero, List.take_succ_cons, List.take_zero]; rfl); exact rfl; (simp only [Act.put, zA, zB, zC])) | ((with_reducible apply wpList_storeAll HO); exact rfl; exact rfl; exact rfl; (repeat (with_reducible (first | exact At.head _ | apply At.tail))); infer_instance; exact rfl; exact rfl; exact rfl; exact rfl; clear HO; intro w HO; (simp only [Act.put])) | (first | ((with_reducible apply wpList_boxAgg _ HO rfl); exact rfl; exact rfl; exact rfl; clear HO; intro b1 w HO; (simp only [Act.put, zA, zB, zC])) | ((with_reducible apply wpList_allocAgg _ HO rfl); exact rfl; infer_instance; exact rfl; clear HO; intro b1 w HO; (simp only [Act.put, zA, zB, zC]))) | (go_at_call 83; go_must ((with_reducible refine (OC _).mono ?_); rintro e w ⟨rfl, hb⟩; replace HO := HO.call hb; clear hb)))
    go_ret
    first | exact ⟨rfl, ⟨r, .slice p S.L.length c, u, v0, v1, v2⟩, rfl, [], HO.tail, HG.out⟩ | exact ⟨rfl, ⟨r, .slice p S.L.length c, u, v0, v1, v2⟩, [], rfl, HO.tail, HG.out⟩
  subst c1
  rw [if_neg (by simp)] at HE
  by_cases c2 : hs = true
  · subst c2
    rw [if_pos rfl] at HE
    obtain rfl := HE.out
    rw [if_neg (by decide)] at HP
    obtain rfl := HP.out
    go_enter Tryz.func28, Tryz.ntmps28
    go_wp2_with (first | go_big_skip | (first | go_big_skip | ((with_reducible apply wpList_loadAll HO); exact rfl; exact rfl; (repeat (with_reducible (first | exact At.head _ | apply At.tail))); infer_instance; exact rfl; exact rfl; (simp only [Act.put, zA, zB, zC])) | ((with_reducible apply wpList_loadOne HO); exact rfl; exact rfl; (repeat (with_reducible (first | exact At.head _ | apply At.tail))); exact rfl; infer_instance; exact rfl; (simp only [Act.put, zA, zB, zC]))) | ((with_reducible apply wpList_loadPart HO); exact rfl; exact rfl; (repeat (with_reducible (first | exact At.head _ | apply At.tail))); infer_instance; exact (Nat.le_of_ble_eq_true rfl); (simp only [List.drop_succ_cons, List.drop_zero, List.take_succ_cons, List.take_zero]; rfl); exact rfl; (simp only [Act.put, zA, zB, zC])) | ((with_reducible apply wpList_storeAll HO); exact rfl; exact rfl; exact rfl; (repeat (with_reducible (first | exact At.head _ | apply At.tail))); infer_instance; exact rfl; exact rfl; exact rfl; exact rfl; clear HO; intro w HO; (simp only [Act.put])) | (first | ((with_reducible apply wpList_boxAgg _ HO rfl); exact rfl; exact rfl; exact rfl; clear HO; intro b1 w HO; (simp only [Act.put, zA, zB, zC])) | ((with_reducible apply wpList_allocAgg _ HO rfl); exact rfl; infer_instance; exact rfl; clear HO; intro b1 w HO; (simp only [Act.put, zA, zB, zC]))) | (go_at_call 83; go_must ((with_reducible refine (OC _).mono ?_); rintro e w ⟨rfl, hb⟩; replace HO := HO.call hb; clear hb)) | (go_at_call 84; go_must ((with_reducible refine (HS0.out _ _ HO (by intro e he; repeat (first | exact he | apply List.mem_cons_of_mem)) (by repeat (first | exact List.mem_cons_self | apply List.mem_cons_of_mem))).mono ?_); rintro e w ⟨rfl, hb⟩; replace HO := HO.call hb; clear hb)))
    go_ret
    first | exact ⟨rfl, ⟨r, .slice p S.L.length c, u, v0, v1, v2⟩, rfl, [], HO.tail, HG.out⟩ | exact ⟨rfl, ⟨r, .slice p S.L.length c, u, v0, v1, v2⟩, [], rfl, HO.tail, HG.out⟩
  rw [Bool.not_eq_true] at c2
  subst c2
  rw [if_neg (by decide)] at HE
  by_cases c3 : 60 ≤ S.L.length
  · have c3' : (60 : Int) ≤ (S.L.length : Int) := by omega
    rw [if_pos c3] at HE
    obtain rfl := HE.out
    rw [if_neg (by decide)] at HP
    obtain rfl := HP.out
    go_enter Tryz.func28, Tryz.ntmps28
    go_wp2_with (first | go_big_skip | (first | go_big_skip | ((with_reducible apply wpList_loadAll HO); exact rfl; exact rfl; (repeat (with_reducible (first | exact At.head _ | apply At.tail))); infer_instance; exact rfl; exact rfl; (simp only [Act.put, zA, zB, zC])) | ((with_reducible apply wpList_loadOne HO); exact rfl; exact rfl; (repeat (with_reducible (first | exact At.head _ | apply At.tail))); exact rfl; infer_instance; exact rfl; (simp only [Act.put, zA, zB, zC]))) | ((with_reducible apply wpList_loadPart HO); exact rfl; exact rfl; (repeat (with_reducible (first | exact At.head _ | apply At.tail))); infer_instance; exact (Nat.le_of_ble_eq_true rfl); (simp only [List.drop_succ_cons, List.drop_zero, List.take_succ_cons, List.take_zero]; rfl); exact rfl; (simp only [Act.put, zA, zB, zC])) | ((with_reducible apply wpList_storeAll HO); exact rfl; exact rfl; exact rfl; (repeat (with_reducible (first | exact At.head _ | apply At.tail))); infer_instance; exact rfl; exact rfl; exact rfl; exact rfl; clear HO; intro w HO; (simp only [Act.put])) | (first | ((with_reducible apply wpList_boxAgg _ HO rfl); exact rfl; exact rfl; exact rfl; clear HO; intro b1 w HO; (simp only [Act.put, zA, zB, zC])) | ((with_reducible apply wpList_allocAgg _ HO rfl); exact rfl; infer_instance; exact rfl; clear HO; intro b1 w HO; (simp only [Act.put, zA, zB, zC]))) | (go_at_call 83; go_must ((with_reducible refine (OC _).mono ?_); rintro e w ⟨rfl, hb⟩; replace HO := HO.call hb; clear hb)) | (go_at_call 84; go_must ((with_reducible refine (HS0.out _ _ HO (by intro e he; repeat (first | exact he | apply List.mem_cons_of_mem)) (by repeat (first | exact List.mem_cons_self | apply List.mem_cons_of_mem))).mono ?_); rintro e w ⟨rfl, hb⟩; replace HO := HO.call hb; clear hb)))
    go_ret
    first | exact ⟨rfl, ⟨r, .slice p S.L.length c, u, v0, v1, v2⟩, rfl, [], HO.tail, HG.out⟩ | exact ⟨rfl, ⟨r, .slice p S.L.length c, u, v0, v1, v2⟩, [], rfl, HO.tail, HG.out⟩
  have c3' : ¬ (60 : Int) ≤ (S.L.length : Int) := by omega
  rw [if_neg c3] at HE
  by_cases c4 : yid = (S.L.length : Int) + 1
  rotate_left
  · rw [if_pos c4] at HE
    obtain rfl := HE.out
    rw [if_neg (by decide)] at HP
    obtain rfl := HP.out
    go_enter Tryz.func28, Tryz.ntmps28
    go_upto_region 10 with (first | go_big_skip | (first | go_big_skip | ((with_reducible apply wpList_loadAll HO); exact rfl; exact rfl; (repeat (with_reducible (first | exact At.head _ | apply At.tail))); infer_instance; exact rfl; exact rfl; (simp only [Act.put, zA, zB, zC])) | ((with_reducible apply wpList_loadOne HO); exact rfl; exact rfl; (repeat (with_reducible (first | exact At.head _ | apply At.tail))); exact rfl; infer_instance; exact rfl; (simp only [Act.put, zA, zB, zC]))) | ((with_reducible apply wpList_loadPart HO); exact rfl; exact rfl; (repeat (with_reducible (first | exact At.head _ | apply At.tail))); infer_instance; exact (Nat.le_of_ble_eq_true rfl); (simp only [List.drop_succ_cons, List.drop_zero, List.take_succ_cons, List.take_zero]; rfl); exact rfl; (simp only [Act.put, zA, zB, zC])) | ((with_reducible apply wpList_storeAll HO); exact rfl; exact rfl; exact rfl; (repeat (with_reducible (first | exact At.head _ | apply At.tail))); infer_instance; exact rfl; exact rfl; exact rfl; exact rfl; clear HO; intro w HO; (simp only [Act.put])) | (first | ((with_reducible apply wpList_boxAgg _ HO rfl); exact rfl; exact rfl; exact rfl; clear HO; intro b1 w HO; (simp only [Act.put, zA, zB, zC])) | ((with_reducible apply wpList_allocAgg _ HO rfl); exact rfl; infer_instance; exact rfl; clear HO; intro b1 w HO; (simp only [Act.put, zA, zB, zC]))) | (go_at_call 83; go_must ((with_reducible refine (OC _).mono ?_); rintro e w ⟨rfl, hb⟩; replace HO := HO.call hb; clear hb)) | (go_at_call 84; go_must ((with_reducible refine (HS0.out _ _ HO (by intro e he; repeat (first | exact he | apply List.mem_cons_of_mem)) (by repeat (first | exact List.mem_cons_self | apply List.mem_cons_of_mem))).mono ?_); rintro e w ⟨rfl, hb⟩; replace HO := HO.call hb; clear hb)))
    refine region_own HO (by kernel_rfl) (by kernel_rfl) ?_
    clear HO
    intro F HF
    repeat (first | (first | go_big_quiet_skip | ((with_reducible apply wpQuiet_loadAll HF); exact rfl; exact rfl; (repeat (with_reducible (first | exact At.head _ | apply At.tail))); infer_instance; exact rfl; exact rfl; (simp only [Act.put, zA, zB, zC])) | ((with_reducible apply wpQuiet_loadOne HF); exact rfl; exact rfl; (repeat (with_reducible (first | exact At.head _ | apply At.tail))); exact rfl; infer_instance; exact rfl; (simp only [Act.put, zA, zB, zC])) | ((with_reducible apply wpQuiet_loadPart HF); exact rfl; exact rfl; (repeat (with_reducible (first | exact At.head _ | apply At.tail))); infer_instance; exact (Nat.le_of_ble_eq_true rfl); (simp only [List.drop_succ_cons, List.drop_zero, List.take_succ_cons, List.take_zero]; rfl); exact rfl; (simp only [Act.put, zA, zB, zC]))) | go_big_quiet_step (fail))
    refine wpQuiet_nil ?_
    intro x
    have HO := HF.own x
    clear HF
    generalize F x = w at *
    clear x F
    go_wp2_with fail
    go_ret
    first | exact ⟨rfl, ⟨r, .slice p S.L.length c, u, v0, v1, v2⟩, rfl, [], HO.tail, HG.out⟩ | exact ⟨rfl, ⟨r, .slice p S.L.length c, u, v0, v1, v2⟩, [], rfl, HO.tail, HG.out⟩
  rw [if_neg (by simp [c4])] at HE
  obtain rfl := HE.out
  rw [if_pos rfl] at HP
  obtain rfl := HP.out
  clear HE HP
  subst c4
  have HX := Lib.hid (show (S.L ++ [((⟨(S.L.length : Int) + 1, yref, ysku, yq, ya⟩ : OrdS), beginD)]).map sagaL = S.L.map sagaL ++ [sagaL ((⟨(S.L.length : Int) + 1, yref, ysku, yq, ya⟩ : OrdS), beginD)] by simp)
  go_enter Tryz.func28, Tryz.ntmps28
  go_upto_region 10 with (first | go_big_skip | (first | go_big_skip | ((with_reducible apply wpList_loadAll HO); exact rfl; exact rfl; (repeat (with_reducible (first | exact At.head _ | apply At.tail))); infer_instance; exact rfl; exact rfl; (simp only [Act.put, zA, zB, zC])) | ((with_reducible apply wpList_loadOne HO); exact rfl; exact rfl; (repeat (with_reducible (first | exact At.head _ | apply At.tail))); exact rfl; infer_instance; exact rfl; (simp only [Act.put, zA, zB, zC]))) | ((with_reducible apply wpList_loadPart HO); exact rfl; exact rfl; (repeat (with_reducible (first | exact At.head _ | apply At.tail))); infer_instance; exact (Nat.le_of_ble_eq_true rfl); (simp only [List.drop_succ_cons, List.drop_zero, List.take_succ_cons, List.take_zero]; rfl); exact rfl; (simp only [Act.put, zA, zB, zC])) | ((with_reducible apply wpList_storeAll HO); exact rfl; exact rfl; exact rfl; (repeat (with_reducible (first | exact At.head _ | apply At.tail))); infer_instance; exact rfl; exact rfl; exact rfl; exact rfl; clear HO; intro w HO; (simp only [Act.put])) | (first | ((with_reducible apply wpList_boxAgg _ HO rfl); exact rfl; exact rfl; exact rfl; clear HO; intro b1 w HO; (simp only [Act.put, zA, zB, zC])) | ((with_reducible apply wpList_allocAgg _ HO rfl); exact rfl; infer_instance; exact rfl; clear HO; intro b1 w HO; (simp only [Act.put, zA, zB, zC]))) | (go_at_call 83; go_must ((with_reducible refine (OC _).mono ?_); rintro e w ⟨rfl, hb⟩; replace HO := HO.call hb; clear hb)) | (go_at_call 84; go_must ((with_reducible refine (HS0.out _ _ HO (by intro e he; repeat (first | exact he | apply List.mem_cons_of_mem)) (by repeat (first | exact List.mem_cons_self | apply List.mem_cons_of_mem))).mono ?_); rintro e w ⟨rfl, hb⟩; replace HO := HO.call hb; clear hb)))
  refine region_own HO (by kernel_rfl) (by kernel_rfl) ?_
  clear HO
  intro F HF
  repeat (first | (first | go_big_quiet_skip | ((with_reducible apply wpQuiet_loadAll HF); exact rfl; exact rfl; (repeat (with_reducible (first | exact At.head _ | apply At.tail))); infer_instance; exact rfl; exact rfl; (simp only [Act.put, zA, zB, zC])) | ((with_reducible apply wpQuiet_loadOne HF); exact rfl; exact rfl; (repeat (with_reducible (first | exact At.head _ | apply At.tail))); exact rfl; infer_instance; exact rfl; (simp only [Act.put, zA, zB, zC])) | ((with_reducible apply wpQuiet_loadPart HF); exact rfl; exact rfl; (repeat (with_reducible (first | exact At.head _ | apply At.tail))); infer_instance; exact (Nat.le_of_ble_eq_true rfl); (simp only [List.drop_succ_cons, List.drop_zero, List.take_succ_cons, List.take_zero]; rfl); exact rfl; (simp only [Act.put, zA, zB, zC]))) | go_big_quiet_step (fail))
  refine wpQuiet_nil ?_
  intro x
  have HO := HF.own x
  clear HF
  generalize F x = w at *
  clear x F
  go_upto_region 12 with fail
  replace HO := HO.nil 124 12
  refine region_sched2 ([box b1 (.cells #[.int .i64 1, .int .i64 ((S.L.length : Int) + 1), .string ⟨yref.toArray⟩, .string ⟨ysku.toArray⟩, .int .i64 yq, .int .i64 ya, .int .i64 yo, .int .i64 yd, .int .i64 yc, .int .i64 yp, .int .i64 yqq, .slice vp yrs.length vc] 34), box r (.cells #[.slice p S.L.length c, u, .int .i64 A.p0, .int .i64 A.q0, v0, .int .i64 A.p1, .int .i64 A.q1, v1, .int .i64 A.p2, .int .i64 A.q2, v2] 152)]) [(0, true), (1, true), (2, true), (3, true), (4, true), (6, true), (7, true), (5, false), (8, false), (9, false), (10, false), (11, true), (12, true), (13, false)] HO (by with_reducible (repeat (first | exact List.nil_sublist _ | apply List.Sublist.cons_cons | apply List.Sublist.cons))) (by kernel_rfl) (by kernel_rfl) ?_
  clear HO
  intro w HO
  repeat (first | ((with_reducible apply wpSched_loadOne); exact rfl; exact rfl; exact rfl; (repeat (with_reducible (first | exact At.head _ | apply At.tail))); exact rfl; infer_instance; exact rfl; (simp only [Act.put, zA, zB, zC])) | ((with_reducible apply wpSched_loadAll); exact rfl; exact rfl; exact rfl; (repeat (with_reducible (first | exact At.head _ | apply At.tail))); infer_instance; exact rfl; exact rfl; (simp only [Act.put, zA, zB, zC])) | ((with_reducible apply wpSched_loadPart); exact rfl; exact rfl; (first | (simp [Act.eval]; rfl) | exact rfl); (repeat (with_reducible (first | exact At.head _ | apply At.tail))); infer_instance; exact (Nat.le_of_ble_eq_true rfl); (simp only [List.drop_succ_cons, List.drop_zero, List.take_succ_cons, List.take_zero]; rfl); exact rfl; (simp only [Act.put, zA, zB, zC])) | ((with_reducible apply wpSched_pure); exact rfl; exact rfl; (intro w'; go_simp; try with_reducible rfl); (simp only [Act.put, zA, zB, zC])))
  ((with_reducible apply wpSched_loud); exact rfl; ((with_reducible apply wpList_appendAll HO); exact rfl; infer_instance; infer_instance; (first | (simp [Act.eval]; rfl) | exact rfl); exact rfl; exact (HU.out _ _ HO (by intro e he; repeat (first | exact he | apply List.mem_cons_of_mem))); exact HL.out; exact H1.out; intro _; (repeat (with_reducible (first | exact At.head _ | apply At.tail))); (first | omega | (simp; omega)); decide; exact rfl; clear HO; intro v2 w HO hv2; (simp only [Act.put, zA, zB, zC])))
  refine wpList_nil (thenQ_keep (HO.held (by with_reducible (repeat (first | exact List.nil_sublist _ | apply List.Sublist.cons_cons | apply List.Sublist.cons)))) ?_)
  ((with_reducible apply wpSched_loud); exact rfl; go_wp2_with ((go_at_call 85; go_must ((with_reducible refine (BG _).mono ?_); rintro e w ⟨rfl, hb⟩; replace HO := HO.call hb; clear hb))))
  refine thenQ_keep (HO.held (by with_reducible (repeat (first | exact List.nil_sublist _ | apply List.Sublist.cons_cons | apply List.Sublist.cons)))) ?_
  ((with_reducible apply wpSched_loud); exact rfl; (first | ((with_reducible apply wpList_lit1 HO); exact rfl; infer_instance; infer_instance; exact rfl; exact rfl; exact (by decide); exact rfl; clear HO; intro bl w HO; (simp only [Act.put, zA, zB, zC])) | ((with_reducible apply wpList_lit1c HO); exact rfl; infer_instance; infer_instance; (first | (simp [Act.eval]; rfl) | exact rfl); exact rfl; exact rfl; clear HO; intro bl w HO; (simp only [Act.put, zA, zB, zC]))))
  refine wpList_nil (thenQ_keep (HO.held (by with_reducible (repeat (first | exact List.nil_sublist _ | apply List.Sublist.cons_cons | apply List.Sublist.cons)))) ?_)
  ((with_reducible apply wpSched_loud); exact rfl; ((with_reducible apply wpList_push1 HO); exact rfl; infer_instance; infer_instance; (first | (simp [Act.eval]; rfl) | exact rfl); exact rfl; intro _; (repeat (with_reducible (first | exact At.head _ | apply At.tail))); exact rfl; exact rfl; (first | omega | (simp; omega)); decide; exact rfl; clear HO; intro v2 w HO hv2; (simp only [Act.put, zA, zB, zC])))
  obtain ⟨p9, n9, c9, rfl⟩ := hv2
  refine wpList_nil (thenQ_free (by kernel_rfl) ?_)
  repeat ((with_reducible apply wpSched_pure); exact rfl; exact rfl; (intro w'; go_simp; try with_reducible rfl); (simp only [Act.put, zA, zB, zC]))
  ((with_reducible apply wpSched_loud); exact rfl; ((with_reducible apply wpList_storeOne HO); exact rfl; exact rfl; (first | (simp [Act.eval]; rfl) | exact rfl); exact rfl; (repeat (with_reducible (first | exact At.head _ | apply At.tail))); infer_instance; exact (by simp); (simp only [List.set_cons_zero]; rfl); exact rfl; clear HO; intro w HO; (simp only [Act.put])))
  refine wpList_nil (thenQ_free (by kernel_rfl) ?_)
  refine wpSched_end ?_
  go_wp2_with fail
  go_ret
  have h6 := HO.perm ((List.perm_append_comm (l₁ := [_, _]) (l₂ := [_])).append_right M)
  have h7 := HG.out.setL (.slice p9 n9 c9) (S.L ++ [((⟨(S.L.length : Int) + 1, yref, ysku, yq, ya⟩ : OrdS), beginD)]) 124
  have h8 := fun (a : Ent) => h7.mono (H := [row 124 12 (.slice p9 n9 c9) ((S.L ++ [((⟨(S.L.length : Int) + 1, yref, ysku, yq, ya⟩ : OrdS), beginD)]).map sagaL), a] ++ G) (fun e he => by
    rcases List.mem_cons.1 he with rfl | he
    · exact List.mem_cons_self
    · exact .tail _ (.tail _ he))
  rw [HX.out] at h8
  exact ⟨rfl, ⟨r, .slice p9 n9 c9, u, _, _, _⟩, [row 124 12 (.slice p9 n9 c9) _, _], rfl, h6, h8 _⟩

set_option maxHeartbeats 16000000 in
set_option maxRecDepth 100000 in
theorem rcApp2_any {W w : World} {M G : List Ent} {x : RcA} {S : CoS} {A : InS} {v9 : Value} (y : EntS) (HO : Own W w (rcB x A :: M)) (hG : RcIn W G x S A) (hm : ∀ e ∈ G, e ∈ M) (hy : EntF W G y v9) (hok : CoOk S) (hids : idsOk S.L) (hk : y.k = 2) :
    Calls Tryz.prog 28 #[.pointer (some ⟨x.r, 0, none⟩), .agg #[.int .i64 (y).k, .int .i64 (y).id, .string ⟨(y).ref.toArray⟩, .string ⟨(y).sku.toArray⟩, .int .i64 (y).qty, .int .i64 (y).amt, .int .i64 (y).o, .int .i64 (y).d, .int .i64 (y).c, .int .i64 (y).p, .int .i64 (y).q, v9]] w fun e w' => e = .returned (.int .i64 (stopE S.L y.o)) ∧ ∃ (x' : RcA) (N : List Ent), x'.r = x.r ∧ Own W w' (rcB x' A :: (N ++ M)) ∧ RcIn W (N ++ G) x' { S with L := stopL S.L y.o } A := by
  have hl60 := hok.len
  have hu := (hy.rows w HO.grown (fun e he => HO.has _ (.tail _ (hm e he)))).slice
  obtain ⟨vp, vc, rfl, -⟩ := hu
  obtain ⟨r, v, u, v0, v1, v2⟩ := x
  obtain ⟨p, c, hv, -⟩ := (hG.at HO (fun e he => List.mem_cons_of_mem _ (hm e he))).l.slice
  simp only at hv
  subst hv
  rw [List.length_map] at HO hG
  have HG := Lib.hid hG
  unfold rcB rcC at HO
  simp only at HO
  have hid := hy.o
  have hi := inI_iff.1 hid
  obtain ⟨yk, yid, yref, ysku, yq, ya, id, yd, yc, yp, yqq, yrs⟩ := y
  simp only at hid hi hk
  subst hk
  change Calls Tryz.prog 28 _ w fun e w' => e = .returned (.int .i64 (stopE S.L id)) ∧ ∃ (x' : RcA) (N : List Ent), x'.r = r ∧ Own W w' (rcB x' A :: (N ++ M)) ∧ RcIn W (N ++ G) x' { S with L := stopL S.L id } A
  rcases hx : ordAt S.L id with _ | z
  · have hno : id < 1 ∨ (S.L.length : Int) < id := by
      by_cases h : id < 1
      · exact .inl h
      · by_cases h2 : (S.L.length : Int) < id
        · exact .inr h2
        · have := ordAt_yes (L := S.L) (id := id) (j := (id - 1).toNat) (by omega) (by omega)
          rw [hx] at this
          cases this
    rw [show stopE S.L id = 4 by unfold stopE; rw [hx], show stopL S.L id = S.L by unfold stopL; rw [hx]]
    clear hx hi hid hok hG hy
    by_cases h1 : id < 1
    · have hd1 : decide (id < 1) = true := decide_eq_true h1
      clear hno
      go_enter Tryz.func28, Tryz.ntmps28
      go_upto_region 15 with (first | go_big_skip | (first | go_big_skip | ((with_reducible apply wpList_loadAll HO); exact rfl; exact rfl; (repeat (with_reducible (first | exact At.head _ | apply At.tail))); infer_instance; exact rfl; exact rfl; (simp only [Act.put, zA, zB, zC])) | ((with_reducible apply wpList_loadOne HO); exact rfl; exact rfl; (repeat (with_reducible (first | exact At.head _ | apply At.tail))); exact rfl; infer_instance; exact rfl; (simp only [Act.put, zA, zB, zC]))) | (first | ((with_reducible apply wpList_boxAgg _ HO rfl); exact rfl; exact rfl; exact rfl; clear HO; intro b1 w HO; (simp only [Act.put, zA, zB, zC])) | ((with_reducible apply wpList_allocAgg _ HO rfl); exact rfl; infer_instance; exact rfl; clear HO; intro b1 w HO; (simp only [Act.put, zA, zB, zC]))))
      refine region_own HO (by kernel_rfl) (by kernel_rfl) ?_
      clear HO
      intro F HF
      repeat (first | (first | (simp only [hd1]) | (first | go_big_quiet_skip | ((with_reducible apply wpQuiet_loadAll HF); exact rfl; exact rfl; (repeat (with_reducible (first | exact At.head _ | apply At.tail))); infer_instance; exact rfl; exact rfl; (simp only [Act.put, zA, zB, zC])) | ((with_reducible apply wpQuiet_loadOne HF); exact rfl; exact rfl; (repeat (with_reducible (first | exact At.head _ | apply At.tail))); exact rfl; infer_instance; exact rfl; (simp only [Act.put, zA, zB, zC])) | ((with_reducible apply wpQuiet_loadPart HF); exact rfl; exact rfl; (repeat (with_reducible (first | exact At.head _ | apply At.tail))); infer_instance; exact (Nat.le_of_ble_eq_true rfl); (simp only [List.drop_succ_cons, List.drop_zero, List.take_succ_cons, List.take_zero]; rfl); exact rfl; (simp only [Act.put, zA, zB, zC])))) | go_big_quiet_step (fail))
      refine wpQuiet_nil ?_
      intro x
      have HO := HF.own x
      clear HF
      generalize F x = w at *
      clear x F
      go_wp2_with fail
      go_ret
      first | exact ⟨rfl, ⟨r, .slice p S.L.length c, u, v0, v1, v2⟩, rfl, [], HO.tail, HG.out⟩ | exact ⟨rfl, ⟨r, .slice p S.L.length c, u, v0, v1, v2⟩, [], rfl, HO.tail, HG.out⟩
    · have hd1 : decide (id < 1) = false := decide_eq_false h1
      have hd2 : decide ((S.L.length : Int) < id) = true := decide_eq_true (by omega)
      clear hno
      go_enter Tryz.func28, Tryz.ntmps28
      go_upto_region 15 with (first | go_big_skip | (first | go_big_skip | ((with_reducible apply wpList_loadAll HO); exact rfl; exact rfl; (repeat (with_reducible (first | exact At.head _ | apply At.tail))); infer_instance; exact rfl; exact rfl; (simp only [Act.put, zA, zB, zC])) | ((with_reducible apply wpList_loadOne HO); exact rfl; exact rfl; (repeat (with_reducible (first | exact At.head _ | apply At.tail))); exact rfl; infer_instance; exact rfl; (simp only [Act.put, zA, zB, zC]))) | (first | ((with_reducible apply wpList_boxAgg _ HO rfl); exact rfl; exact rfl; exact rfl; clear HO; intro b1 w HO; (simp only [Act.put, zA, zB, zC])) | ((with_reducible apply wpList_allocAgg _ HO rfl); exact rfl; infer_instance; exact rfl; clear HO; intro b1 w HO; (simp only [Act.put, zA, zB, zC]))))
      refine region_own HO (by kernel_rfl) (by kernel_rfl) ?_
      clear HO
      intro F HF
      repeat (first | (first | (simp only [hd1]) | (simp only [hd2]) | (first | go_big_quiet_skip | ((with_reducible apply wpQuiet_loadAll HF); exact rfl; exact rfl; (repeat (with_reducible (first | exact At.head _ | apply At.tail))); infer_instance; exact rfl; exact rfl; (simp only [Act.put, zA, zB, zC])) | ((with_reducible apply wpQuiet_loadOne HF); exact rfl; exact rfl; (repeat (with_reducible (first | exact At.head _ | apply At.tail))); exact rfl; infer_instance; exact rfl; (simp only [Act.put, zA, zB, zC])) | ((with_reducible apply wpQuiet_loadPart HF); exact rfl; exact rfl; (repeat (with_reducible (first | exact At.head _ | apply At.tail))); infer_instance; exact (Nat.le_of_ble_eq_true rfl); (simp only [List.drop_succ_cons, List.drop_zero, List.take_succ_cons, List.take_zero]; rfl); exact rfl; (simp only [Act.put, zA, zB, zC])))) | go_big_quiet_step (fail))
      refine wpQuiet_nil ?_
      intro x
      have HO := HF.own x
      clear HF
      generalize F x = w at *
      clear x F
      go_wp2_with fail
      go_ret
      first | exact ⟨rfl, ⟨r, .slice p S.L.length c, u, v0, v1, v2⟩, rfl, [], HO.tail, HG.out⟩ | exact ⟨rfl, ⟨r, .slice p S.L.length c, u, v0, v1, v2⟩, [], rfl, HO.tail, HG.out⟩
  · obtain ⟨j, hj, hid2, rfl⟩ := ordAt_some hx
    have hjI : (j : Int) < (S.L.length : Int) := by omega
    have e1 : IntKind.i64.wrap (id - 1) = (j : Int) := by rw [wrap_in (inI_iff.2 (by omega))]; omega
    have e2 : (id - 1).toNat = j := by omega
    have hd1 : decide (id < 1) = false := decide_eq_false (by omega)
    have hd2 : decide ((S.L.length : Int) < id) = false := decide_eq_false (by omega)
    have hio := hids j _ (List.getElem?_eq_getElem hj)
    obtain ⟨q, rfl⟩ : ∃ q, p = some q := by
      rcases p with _ | q
      · have := (hG.at HO (fun e he => List.mem_cons_of_mem _ (hm e he))).l.at (by simp; omega)
        obtain ⟨_, _, h, _⟩ := this
        cases h
      · exact ⟨q, rfl⟩
    have HI := Lib.hid (fun (w' : World) (hb : Below W.heap.size W w') (hF : ∀ e ∈ M, e.F w') => isL_cell (hG w' hb (fun e he => hF e (hm e he))).l (j := j) (by simpa using hj))
    simp only [List.getElem_map] at HI
    have HS := Lib.hid (fun (w' : World) (L' : List Ent) (h : Own W w' L') (hM : ∀ e ∈ M, e ∈ L') => (hG.at h (fun e he => hM e (hm e he))).l)
    simp only at HS
    rw [show stopE S.L id = (match stopOf S.L[j].2 with | none => 92 | some _ => 0) by unfold stopE; rw [hx]; first | done | rfl, show stopL S.L id = (match stopOf S.L[j].2 with | none => S.L | some t => S.L.set j (S.L[j].1, t)) by unfold stopL; rw [hx]; simp only [sagAt, e2]; first | done | rfl]
    generalize hy' : S.L[j] = z at *
    obtain ⟨o, s⟩ := z
    dsimp only
    have RP := fun w => refStop_any o s w
    clear hx e2
    unfold sagaL at HI
    have hl1000 : S.L.length ≤ 1000 := by omega
    have hp2 := fun (a b X : Ent) => (List.perm_append_comm (l₁ := [a, b]) (l₂ := [X])).append_right M
    have ST0 := (fun (t : D6) (w : World) (a b : Ent) (h : Own W w (a :: b :: rcB ⟨r, .slice (some q) S.L.length c, u, v0, v1, v2⟩ A :: M)) => rcSet_any (L := S.L) o t (M := a :: b :: M) (h.perm (hp2 a b _)) (fun w' L' h hM => HS.out w' L' h (fun e he => hM e (.tail _ (.tail _ he)))) hio hj hl1000)
    unfold sagaV at ST0
    clear hi hid hok hG hy hids hio hid2 hy' HS
    rcases hst : stopOf s with _ | t
    · rw [hst] at RP
      simp only [stopV, noneV, sagaV] at RP
      clear ST0
      go_enter Tryz.func28, Tryz.ntmps28
      go_upto_region 15 with (first | go_big_skip | (first | go_big_skip | ((with_reducible apply wpList_loadAll HO); exact rfl; exact rfl; (repeat (with_reducible (first | exact At.head _ | apply At.tail))); infer_instance; exact rfl; exact rfl; (simp only [Act.put, zA, zB, zC])) | ((with_reducible apply wpList_loadOne HO); exact rfl; exact rfl; (repeat (with_reducible (first | exact At.head _ | apply At.tail))); exact rfl; infer_instance; exact rfl; (simp only [Act.put, zA, zB, zC]))) | (first | ((with_reducible apply wpList_boxAgg _ HO rfl); exact rfl; exact rfl; exact rfl; clear HO; intro b1 w HO; (simp only [Act.put, zA, zB, zC])) | ((with_reducible apply wpList_allocAgg _ HO rfl); exact rfl; infer_instance; exact rfl; clear HO; intro b1 w HO; (simp only [Act.put, zA, zB, zC]))))
      refine region_own HO (by kernel_rfl) (by kernel_rfl) ?_
      clear HO
      intro F HF
      repeat (first | (first | (simp only [hd1]) | (simp only [hd2]) | (first | go_big_quiet_skip | ((with_reducible apply wpQuiet_loadAll HF); exact rfl; exact rfl; (repeat (with_reducible (first | exact At.head _ | apply At.tail))); infer_instance; exact rfl; exact rfl; (simp only [Act.put, zA, zB, zC])) | ((with_reducible apply wpQuiet_loadOne HF); exact rfl; exact rfl; (repeat (with_reducible (first | exact At.head _ | apply At.tail))); exact rfl; infer_instance; exact rfl; (simp only [Act.put, zA, zB, zC])) | ((with_reducible apply wpQuiet_loadPart HF); exact rfl; exact rfl; (repeat (with_reducible (first | exact At.head _ | apply At.tail))); infer_instance; exact (Nat.le_of_ble_eq_true rfl); (simp only [List.drop_succ_cons, List.drop_zero, List.take_succ_cons, List.take_zero]; rfl); exact rfl; (simp only [Act.put, zA, zB, zC])))) | go_big_quiet_step (fail))
      refine wpQuiet_nil ?_
      intro x
      have HO := HF.own x
      clear HF
      generalize F x = w at *
      clear x F
      go_upto_region 17 with fail
      go_cut [6, 7] (fun x e wx => ∃ b6, x = .pointer (some ⟨b6, 0, none⟩) ∧ e = .int .i64 92 ∧ Own W wx (box b6 (.cells #[.int .i64 0, .string ⟨#[]⟩, .string ⟨#[]⟩, .int .i64 0, .int .i64 0, .int .i64 0, .int .i64 0, .int .i64 0, .int .i64 0, .int .i64 0, .int .i64 0, .bool false] 124) :: box b1 (.cells #[.int .i64 2, .int .i64 yid, .string ⟨yref.toArray⟩, .string ⟨ysku.toArray⟩, .int .i64 yq, .int .i64 ya, .int .i64 id, .int .i64 yd, .int .i64 yc, .int .i64 yp, .int .i64 yqq, .slice vp yrs.length vc] 34) :: box r (.cells #[.slice (some q) S.L.length c, u, .int .i64 A.p0, .int .i64 A.q0, v0, .int .i64 A.p1, .int .i64 A.q1, v1, .int .i64 A.p2, .int .i64 A.q2, v2] 152) :: M))
      case first =>
        refine region_treeO (box b1 (.cells #[.int .i64 2, .int .i64 yid, .string ⟨yref.toArray⟩, .string ⟨ysku.toArray⟩, .int .i64 yq, .int .i64 ya, .int .i64 id, .int .i64 yd, .int .i64 yc, .int .i64 yp, .int .i64 yqq, .slice vp yrs.length vc] 34) :: box r (.cells #[.slice (some q) S.L.length c, u, .int .i64 A.p0, .int .i64 A.q0, v0, .int .i64 A.p1, .int .i64 A.q1, v1, .int .i64 A.p2, .int .i64 A.q2, v2] 152) :: M) [(0, true), (1, true), (2, true), (3, true), (4, true), (5, true), (6, true), (7, true), (8, true), (9, true), (11, true), (12, true), (13, true), (16, true)] (.fork [(0, true), (1, true), (2, true), (3, true), (4, true), (5, true), (6, true), (7, true), (8, true), (9, true)] 10 14 (.fin [(11, true), (12, true), (13, true), (14, false), (15, false), (16, true)]) (.fin [(10, false), (11, true), (12, true), (13, true), (15, false), (16, true)])) HO (by with_reducible (repeat (first | exact List.Sublist.refl _ | apply List.Sublist.cons_cons | apply List.Sublist.cons))) (by kernel_rfl) (by kernel_rfl) ?_
        clear HO
        intro w HO
        refine wpS_fork ?_
        repeat (first | ((with_reducible apply wpSched_loadAll); exact rfl; exact rfl; exact rfl; (repeat (with_reducible (first | exact At.head _ | apply At.tail))); infer_instance; exact rfl; exact rfl; (simp only [Act.put, zA, zB, zC])) | ((with_reducible apply wpSched_loadOne); exact rfl; exact rfl; exact rfl; (repeat (with_reducible (first | exact At.head _ | apply At.tail))); exact rfl; infer_instance; exact rfl; (simp only [Act.put, zA, zB, zC])) | ((with_reducible apply wpSched_loadPart); exact rfl; exact rfl; (first | (simp [Act.eval]; rfl) | exact rfl); (repeat (with_reducible (first | exact At.head _ | apply At.tail))); infer_instance; exact (Nat.le_of_ble_eq_true rfl); (simp only [List.drop_succ_cons, List.drop_zero, List.take_succ_cons, List.take_zero]; rfl); exact rfl; (simp only [Act.put, zA, zB, zC])) | ((with_reducible apply wpSched_loadAt); exact rfl; exact rfl; exact rfl; exact (fun w' hw => HI.out w' (hw _ List.mem_cons_self) (fun e he => hw _ (.tail _ (.tail _ (.tail _ he))))); infer_instance; exact rfl; exact rfl; (simp only [Act.put, zA, zB, zC])) | ((with_reducible apply wpSched_pure); exact rfl; exact rfl; (intro w'; go_simp; try with_reducible rfl); (simp only [Act.put, zA, zB, zC])))
        refine fork_end rfl rfl ?_ ?_
        · go_wp2_with ((go_at_call 86; go_must ((with_reducible refine (RP _).mono ?_); rintro e w ⟨rfl, hb⟩; replace HO := HO.call hb; clear hb)))
          refine thenQ_keep (HO.heldO (by with_reducible (repeat (first | exact List.Sublist.refl _ | apply List.Sublist.cons_cons | apply List.Sublist.cons)))) ?_
          refine wpS_fin ?_
          repeat (first | ((with_reducible apply wpSched_loadAll); exact rfl; exact rfl; exact rfl; (repeat (with_reducible (first | exact At.head _ | apply At.tail))); infer_instance; exact rfl; exact rfl; (simp only [Act.put, zA, zB, zC])) | ((with_reducible apply wpSched_loadOne); exact rfl; exact rfl; exact rfl; (repeat (with_reducible (first | exact At.head _ | apply At.tail))); exact rfl; infer_instance; exact rfl; (simp only [Act.put, zA, zB, zC])) | ((with_reducible apply wpSched_loadPart); exact rfl; exact rfl; (first | (simp [Act.eval]; rfl) | exact rfl); (repeat (with_reducible (first | exact At.head _ | apply At.tail))); infer_instance; exact (Nat.le_of_ble_eq_true rfl); (simp only [List.drop_succ_cons, List.drop_zero, List.take_succ_cons, List.take_zero]; rfl); exact rfl; (simp only [Act.put, zA, zB, zC])) | ((with_reducible apply wpSched_pure); exact rfl; exact rfl; (intro w'; go_simp; try with_reducible rfl); (simp only [Act.put, zA, zB, zC])))
          ((with_reducible apply wpSched_loud); exact rfl; (first | ((with_reducible apply wpList_boxAgg _ HO rfl); exact rfl; exact rfl; exact rfl; clear HO; intro b6 w HO; (simp only [Act.put, zA, zB, zC])) | ((with_reducible apply wpList_allocAgg _ HO rfl); exact rfl; infer_instance; exact rfl; clear HO; intro b6 w HO; (simp only [Act.put, zA, zB, zC])) | ((with_reducible apply wpList_boxOne _ HO rfl); exact rfl; (first | (simp [Act.eval]; rfl) | exact rfl); exact rfl; exact rfl; clear HO; intro b6 w HO; (simp only [Act.put, zA, zB, zC])) | ((with_reducible apply wpList_alloc _ HO rfl); exact rfl; infer_instance; exact rfl; exact rfl; clear HO; intro b6 w HO; (simp only [Act.put, zA, zB, zC]))))
          refine wpList_nil (thenQ_keep (HO.heldO (by with_reducible (repeat (first | exact List.Sublist.refl _ | apply List.Sublist.cons_cons | apply List.Sublist.cons)))) ?_)
          ((with_reducible apply wpSched_loud); exact rfl; ((with_reducible apply wpList_storeAll HO); exact rfl; exact rfl; exact rfl; (repeat (with_reducible (first | exact At.head _ | apply At.tail))); infer_instance; exact rfl; exact rfl; exact rfl; exact rfl; clear HO; intro w HO; (simp only [Act.put])))
          refine wpList_nil (thenQ_keep (HO.heldO (by with_reducible (repeat (first | exact List.Sublist.refl _ | apply List.Sublist.cons_cons | apply List.Sublist.cons)))) ?_)
          repeat ((with_reducible apply wpSched_pure); exact rfl; exact rfl; (intro w'; go_simp; try with_reducible rfl); (simp only [Act.put, zA, zB, zC]))
          refine wpSched_end ?_
          go_wp2_with fail
          go_meet
          exact ⟨b6, rfl, rfl, HO⟩
        · (first | ((with_reducible apply wpList_boxAgg _ HO rfl); exact rfl; exact rfl; exact rfl; clear HO; intro b6 w HO; (simp only [Act.put, zA, zB, zC])) | ((with_reducible apply wpList_allocAgg _ HO rfl); exact rfl; infer_instance; exact rfl; clear HO; intro b6 w HO; (simp only [Act.put, zA, zB, zC])) | ((with_reducible apply wpList_boxOne _ HO rfl); exact rfl; (first | (simp [Act.eval]; rfl) | exact rfl); exact rfl; exact rfl; clear HO; intro b6 w HO; (simp only [Act.put, zA, zB, zC])) | ((with_reducible apply wpList_alloc _ HO rfl); exact rfl; infer_instance; exact rfl; exact rfl; clear HO; intro b6 w HO; (simp only [Act.put, zA, zB, zC])))
          refine wpList_nil (thenQ_keep (HO.heldO (by with_reducible (repeat (first | exact List.Sublist.refl _ | apply List.Sublist.cons_cons | apply List.Sublist.cons)))) ?_)
          refine wpS_fin ?_
          ((with_reducible apply wpSched_loud); exact rfl; go_wp2_with ((go_at_call 86; go_must ((with_reducible refine (RP _).mono ?_); rintro e w ⟨rfl, hb⟩; replace HO := HO.call hb; clear hb))))
          refine thenQ_keep (HO.heldO (by with_reducible (repeat (first | exact List.Sublist.refl _ | apply List.Sublist.cons_cons | apply List.Sublist.cons)))) ?_
          repeat (first | ((with_reducible apply wpSched_loadAll); exact rfl; exact rfl; exact rfl; (repeat (with_reducible (first | exact At.head _ | apply At.tail))); infer_instance; exact rfl; exact rfl; (simp only [Act.put, zA, zB, zC])) | ((with_reducible apply wpSched_loadOne); exact rfl; exact rfl; exact rfl; (repeat (with_reducible (first | exact At.head _ | apply At.tail))); exact rfl; infer_instance; exact rfl; (simp only [Act.put, zA, zB, zC])) | ((with_reducible apply wpSched_loadPart); exact rfl; exact rfl; (first | (simp [Act.eval]; rfl) | exact rfl); (repeat (with_reducible (first | exact At.head _ | apply At.tail))); infer_instance; exact (Nat.le_of_ble_eq_true rfl); (simp only [List.drop_succ_cons, List.drop_zero, List.take_succ_cons, List.take_zero]; rfl); exact rfl; (simp only [Act.put, zA, zB, zC])) | ((with_reducible apply wpSched_pure); exact rfl; exact rfl; (intro w'; go_simp; try with_reducible rfl); (simp only [Act.put, zA, zB, zC])))
          ((with_reducible apply wpSched_loud); exact rfl; ((with_reducible apply wpList_storeAll HO); exact rfl; exact rfl; exact rfl; (repeat (with_reducible (first | exact At.head _ | apply At.tail))); infer_instance; exact rfl; exact rfl; exact rfl; exact rfl; clear HO; intro w HO; (simp only [Act.put])))
          refine wpList_nil (thenQ_keep (HO.heldO (by with_reducible (repeat (first | exact List.Sublist.refl _ | apply List.Sublist.cons_cons | apply List.Sublist.cons)))) ?_)
          repeat ((with_reducible apply wpSched_pure); exact rfl; exact rfl; (intro w'; go_simp; try with_reducible rfl); (simp only [Act.put, zA, zB, zC]))
          refine wpSched_end ?_
          go_wp2_with fail
          go_meet
          exact ⟨b6, rfl, rfl, HO⟩
      clear HO
      obtain ⟨b6, rfl, rfl, HO⟩ := hcut
      go_wp2_with (first | go_big_skip | (first | go_big_skip | ((with_reducible apply wpList_loadAll HO); exact rfl; exact rfl; (repeat (with_reducible (first | exact At.head _ | apply At.tail))); infer_instance; exact rfl; exact rfl; (simp only [Act.put, zA, zB, zC])) | ((with_reducible apply wpList_loadOne HO); exact rfl; exact rfl; (repeat (with_reducible (first | exact At.head _ | apply At.tail))); exact rfl; infer_instance; exact rfl; (simp only [Act.put, zA, zB, zC]))))
      go_ret
      first | exact ⟨rfl, ⟨r, .slice (some q) S.L.length c, u, v0, v1, v2⟩, rfl, [], HO.tail.tail, HG.out⟩ | exact ⟨rfl, ⟨r, .slice (some q) S.L.length c, u, v0, v1, v2⟩, [], rfl, HO.tail.tail, HG.out⟩
    · rw [hst] at RP
      simp only [stopV, sagaV] at RP
      dsimp only
      go_enter Tryz.func28, Tryz.ntmps28
      go_upto_region 15 with (first | go_big_skip | (first | go_big_skip | ((with_reducible apply wpList_loadAll HO); exact rfl; exact rfl; (repeat (with_reducible (first | exact At.head _ | apply At.tail))); infer_instance; exact rfl; exact rfl; (simp only [Act.put, zA, zB, zC])) | ((with_reducible apply wpList_loadOne HO); exact rfl; exact rfl; (repeat (with_reducible (first | exact At.head _ | apply At.tail))); exact rfl; infer_instance; exact rfl; (simp only [Act.put, zA, zB, zC]))) | (first | ((with_reducible apply wpList_boxAgg _ HO rfl); exact rfl; exact rfl; exact rfl; clear HO; intro b1 w HO; (simp only [Act.put, zA, zB, zC])) | ((with_reducible apply wpList_allocAgg _ HO rfl); exact rfl; infer_instance; exact rfl; clear HO; intro b1 w HO; (simp only [Act.put, zA, zB, zC]))))
      refine region_own HO (by kernel_rfl) (by kernel_rfl) ?_
      clear HO
      intro F HF
      repeat (first | (first | (simp only [hd1]) | (simp only [hd2]) | (first | go_big_quiet_skip | ((with_reducible apply wpQuiet_loadAll HF); exact rfl; exact rfl; (repeat (with_reducible (first | exact At.head _ | apply At.tail))); infer_instance; exact rfl; exact rfl; (simp only [Act.put, zA, zB, zC])) | ((with_reducible apply wpQuiet_loadOne HF); exact rfl; exact rfl; (repeat (with_reducible (first | exact At.head _ | apply At.tail))); exact rfl; infer_instance; exact rfl; (simp only [Act.put, zA, zB, zC])) | ((with_reducible apply wpQuiet_loadPart HF); exact rfl; exact rfl; (repeat (with_reducible (first | exact At.head _ | apply At.tail))); infer_instance; exact (Nat.le_of_ble_eq_true rfl); (simp only [List.drop_succ_cons, List.drop_zero, List.take_succ_cons, List.take_zero]; rfl); exact rfl; (simp only [Act.put, zA, zB, zC])))) | go_big_quiet_step (fail))
      refine wpQuiet_nil ?_
      intro x
      have HO := HF.own x
      clear HF
      generalize F x = w at *
      clear x F
      go_upto_region 17 with fail
      go_cut [6, 7] (fun x e wx => ∃ b6, x = .pointer (some ⟨b6, 0, none⟩) ∧ e = .int .i64 0 ∧ Own W wx (box b6 (.cells #[.int .i64 o.id, .string ⟨o.ref.toArray⟩, .string ⟨o.sku.toArray⟩, .int .i64 o.qty, .int .i64 o.amt, .int .i64 t.a, .int .i64 t.b, .int .i64 t.c, .int .i64 t.d, .int .i64 t.e, .int .i64 t.f, .bool t.x] 124) :: box b1 (.cells #[.int .i64 2, .int .i64 yid, .string ⟨yref.toArray⟩, .string ⟨ysku.toArray⟩, .int .i64 yq, .int .i64 ya, .int .i64 id, .int .i64 yd, .int .i64 yc, .int .i64 yp, .int .i64 yqq, .slice vp yrs.length vc] 34) :: box r (.cells #[.slice (some q) S.L.length c, u, .int .i64 A.p0, .int .i64 A.q0, v0, .int .i64 A.p1, .int .i64 A.q1, v1, .int .i64 A.p2, .int .i64 A.q2, v2] 152) :: M))
      case first =>
        refine region_treeO (box b1 (.cells #[.int .i64 2, .int .i64 yid, .string ⟨yref.toArray⟩, .string ⟨ysku.toArray⟩, .int .i64 yq, .int .i64 ya, .int .i64 id, .int .i64 yd, .int .i64 yc, .int .i64 yp, .int .i64 yqq, .slice vp yrs.length vc] 34) :: box r (.cells #[.slice (some q) S.L.length c, u, .int .i64 A.p0, .int .i64 A.q0, v0, .int .i64 A.p1, .int .i64 A.q1, v1, .int .i64 A.p2, .int .i64 A.q2, v2] 152) :: M) [(0, true), (1, true), (2, true), (3, true), (4, true), (5, true), (6, true), (7, true), (8, true), (9, true), (11, true), (12, true), (13, true), (16, true)] (.fork [(0, true), (1, true), (2, true), (3, true), (4, true), (5, true), (6, true), (7, true), (8, true), (9, true)] 10 14 (.fin [(11, true), (12, true), (13, true), (14, false), (15, false), (16, true)]) (.fin [(10, false), (11, true), (12, true), (13, true), (15, false), (16, true)])) HO (by with_reducible (repeat (first | exact List.Sublist.refl _ | apply List.Sublist.cons_cons | apply List.Sublist.cons))) (by kernel_rfl) (by kernel_rfl) ?_
        clear HO
        intro w HO
        refine wpS_fork ?_
        repeat (first | ((with_reducible apply wpSched_loadAll); exact rfl; exact rfl; exact rfl; (repeat (with_reducible (first | exact At.head _ | apply At.tail))); infer_instance; exact rfl; exact rfl; (simp only [Act.put, zA, zB, zC])) | ((with_reducible apply wpSched_loadOne); exact rfl; exact rfl; exact rfl; (repeat (with_reducible (first | exact At.head _ | apply At.tail))); exact rfl; infer_instance; exact rfl; (simp only [Act.put, zA, zB, zC])) | ((with_reducible apply wpSched_loadPart); exact rfl; exact rfl; (first | (simp [Act.eval]; rfl) | exact rfl); (repeat (with_reducible (first | exact At.head _ | apply At.tail))); infer_instance; exact (Nat.le_of_ble_eq_true rfl); (simp only [List.drop_succ_cons, List.drop_zero, List.take_succ_cons, List.take_zero]; rfl); exact rfl; (simp only [Act.put, zA, zB, zC])) | ((with_reducible apply wpSched_loadAt); exact rfl; exact rfl; exact rfl; exact (fun w' hw => HI.out w' (hw _ List.mem_cons_self) (fun e he => hw _ (.tail _ (.tail _ (.tail _ he))))); infer_instance; exact rfl; exact rfl; (simp only [Act.put, zA, zB, zC])) | ((with_reducible apply wpSched_pure); exact rfl; exact rfl; (intro w'; go_simp; try with_reducible rfl); (simp only [Act.put, zA, zB, zC])))
        refine fork_end rfl rfl ?_ ?_
        · go_wp2_with ((go_at_call 86; go_must ((with_reducible refine (RP _).mono ?_); rintro e w ⟨rfl, hb⟩; replace HO := HO.call hb; clear hb)))
          refine thenQ_keep (HO.heldO (by with_reducible (repeat (first | exact List.Sublist.refl _ | apply List.Sublist.cons_cons | apply List.Sublist.cons)))) ?_
          refine wpS_fin ?_
          repeat (first | ((with_reducible apply wpSched_loadAll); exact rfl; exact rfl; exact rfl; (repeat (with_reducible (first | exact At.head _ | apply At.tail))); infer_instance; exact rfl; exact rfl; (simp only [Act.put, zA, zB, zC])) | ((with_reducible apply wpSched_loadOne); exact rfl; exact rfl; exact rfl; (repeat (with_reducible (first | exact At.head _ | apply At.tail))); exact rfl; infer_instance; exact rfl; (simp only [Act.put, zA, zB, zC])) | ((with_reducible apply wpSched_loadPart); exact rfl; exact rfl; (first | (simp [Act.eval]; rfl) | exact rfl); (repeat (with_reducible (first | exact At.head _ | apply At.tail))); infer_instance; exact (Nat.le_of_ble_eq_true rfl); (simp only [List.drop_succ_cons, List.drop_zero, List.take_succ_cons, List.take_zero]; rfl); exact rfl; (simp only [Act.put, zA, zB, zC])) | ((with_reducible apply wpSched_pure); exact rfl; exact rfl; (intro w'; go_simp; try with_reducible rfl); (simp only [Act.put, zA, zB, zC])))
          ((with_reducible apply wpSched_loud); exact rfl; (first | ((with_reducible apply wpList_boxAgg _ HO rfl); exact rfl; exact rfl; exact rfl; clear HO; intro b6 w HO; (simp only [Act.put, zA, zB, zC])) | ((with_reducible apply wpList_allocAgg _ HO rfl); exact rfl; infer_instance; exact rfl; clear HO; intro b6 w HO; (simp only [Act.put, zA, zB, zC])) | ((with_reducible apply wpList_boxOne _ HO rfl); exact rfl; (first | (simp [Act.eval]; rfl) | exact rfl); exact rfl; exact rfl; clear HO; intro b6 w HO; (simp only [Act.put, zA, zB, zC])) | ((with_reducible apply wpList_alloc _ HO rfl); exact rfl; infer_instance; exact rfl; exact rfl; clear HO; intro b6 w HO; (simp only [Act.put, zA, zB, zC]))))
          refine wpList_nil (thenQ_keep (HO.heldO (by with_reducible (repeat (first | exact List.Sublist.refl _ | apply List.Sublist.cons_cons | apply List.Sublist.cons)))) ?_)
          ((with_reducible apply wpSched_loud); exact rfl; ((with_reducible apply wpList_storeAll HO); exact rfl; exact rfl; exact rfl; (repeat (with_reducible (first | exact At.head _ | apply At.tail))); infer_instance; exact rfl; exact rfl; exact rfl; exact rfl; clear HO; intro w HO; (simp only [Act.put])))
          refine wpList_nil (thenQ_keep (HO.heldO (by with_reducible (repeat (first | exact List.Sublist.refl _ | apply List.Sublist.cons_cons | apply List.Sublist.cons)))) ?_)
          repeat ((with_reducible apply wpSched_pure); exact rfl; exact rfl; (intro w'; go_simp; try with_reducible rfl); (simp only [Act.put, zA, zB, zC]))
          refine wpSched_end ?_
          go_wp2_with fail
          go_meet
          exact ⟨b6, rfl, rfl, HO⟩
        · (first | ((with_reducible apply wpList_boxAgg _ HO rfl); exact rfl; exact rfl; exact rfl; clear HO; intro b6 w HO; (simp only [Act.put, zA, zB, zC])) | ((with_reducible apply wpList_allocAgg _ HO rfl); exact rfl; infer_instance; exact rfl; clear HO; intro b6 w HO; (simp only [Act.put, zA, zB, zC])) | ((with_reducible apply wpList_boxOne _ HO rfl); exact rfl; (first | (simp [Act.eval]; rfl) | exact rfl); exact rfl; exact rfl; clear HO; intro b6 w HO; (simp only [Act.put, zA, zB, zC])) | ((with_reducible apply wpList_alloc _ HO rfl); exact rfl; infer_instance; exact rfl; exact rfl; clear HO; intro b6 w HO; (simp only [Act.put, zA, zB, zC])))
          refine wpList_nil (thenQ_keep (HO.heldO (by with_reducible (repeat (first | exact List.Sublist.refl _ | apply List.Sublist.cons_cons | apply List.Sublist.cons)))) ?_)
          refine wpS_fin ?_
          ((with_reducible apply wpSched_loud); exact rfl; go_wp2_with ((go_at_call 86; go_must ((with_reducible refine (RP _).mono ?_); rintro e w ⟨rfl, hb⟩; replace HO := HO.call hb; clear hb))))
          refine thenQ_keep (HO.heldO (by with_reducible (repeat (first | exact List.Sublist.refl _ | apply List.Sublist.cons_cons | apply List.Sublist.cons)))) ?_
          repeat (first | ((with_reducible apply wpSched_loadAll); exact rfl; exact rfl; exact rfl; (repeat (with_reducible (first | exact At.head _ | apply At.tail))); infer_instance; exact rfl; exact rfl; (simp only [Act.put, zA, zB, zC])) | ((with_reducible apply wpSched_loadOne); exact rfl; exact rfl; exact rfl; (repeat (with_reducible (first | exact At.head _ | apply At.tail))); exact rfl; infer_instance; exact rfl; (simp only [Act.put, zA, zB, zC])) | ((with_reducible apply wpSched_loadPart); exact rfl; exact rfl; (first | (simp [Act.eval]; rfl) | exact rfl); (repeat (with_reducible (first | exact At.head _ | apply At.tail))); infer_instance; exact (Nat.le_of_ble_eq_true rfl); (simp only [List.drop_succ_cons, List.drop_zero, List.take_succ_cons, List.take_zero]; rfl); exact rfl; (simp only [Act.put, zA, zB, zC])) | ((with_reducible apply wpSched_pure); exact rfl; exact rfl; (intro w'; go_simp; try with_reducible rfl); (simp only [Act.put, zA, zB, zC])))
          ((with_reducible apply wpSched_loud); exact rfl; ((with_reducible apply wpList_storeAll HO); exact rfl; exact rfl; exact rfl; (repeat (with_reducible (first | exact At.head _ | apply At.tail))); infer_instance; exact rfl; exact rfl; exact rfl; exact rfl; clear HO; intro w HO; (simp only [Act.put])))
          refine wpList_nil (thenQ_keep (HO.heldO (by with_reducible (repeat (first | exact List.Sublist.refl _ | apply List.Sublist.cons_cons | apply List.Sublist.cons)))) ?_)
          repeat ((with_reducible apply wpSched_pure); exact rfl; exact rfl; (intro w'; go_simp; try with_reducible rfl); (simp only [Act.put, zA, zB, zC]))
          refine wpSched_end ?_
          go_wp2_with fail
          go_meet
          exact ⟨b6, rfl, rfl, HO⟩
      clear HO
      obtain ⟨b6, rfl, rfl, HO⟩ := hcut
      have ST := Lib.hid (ST0 t)
      clear ST0
      go_wp2_with (first | go_big_skip | (first | go_big_skip | ((with_reducible apply wpList_loadAll HO); exact rfl; exact rfl; (repeat (with_reducible (first | exact At.head _ | apply At.tail))); infer_instance; exact rfl; exact rfl; (simp only [Act.put, zA, zB, zC])) | ((with_reducible apply wpList_loadOne HO); exact rfl; exact rfl; (repeat (with_reducible (first | exact At.head _ | apply At.tail))); exact rfl; infer_instance; exact rfl; (simp only [Act.put, zA, zB, zC]))) | (go_at_call 87; go_must ((have h9 := ST.out _ _ _ HO); (with_reducible refine h9.mono ?_); clear h9 HO; rintro e w ⟨rfl, v9, HO⟩)))
      go_ret
      have h7 : RcIn W (row 124 12 v9 ((S.L.set j (o, t)).map sagaL) :: G) ⟨r, v9, u, v0, v1, v2⟩ ⟨S.L.set j (o, t), S.P⟩ A := HG.out.setL v9 (S.L.set j (o, t)) _
      have h8 := fun (a b : Ent) => h7.mono (H := [row 124 12 v9 ((S.L.set j (o, t)).map sagaL), a, b] ++ G) (fun e he => by
        rcases List.mem_cons.1 he with rfl | he
        · exact List.mem_cons_self
        · exact .tail _ (.tail _ (.tail _ he)))
      first | exact ⟨rfl, ⟨r, v9, u, v0, v1, v2⟩, rfl, _, HO, h8 _ _⟩ | exact ⟨rfl, ⟨r, v9, u, v0, v1, v2⟩, _, rfl, HO, h8 _ _⟩
end Go.Proofs.YtibabfedpdoofaaGreatDoor

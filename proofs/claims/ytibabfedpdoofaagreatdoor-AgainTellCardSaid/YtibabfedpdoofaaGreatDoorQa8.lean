/-
  What a saga becomes by a reply, by walking both texts; conditions: none. (Printed by wip/mksaga.py.)
  What a saga becomes by being cancelled, by walking both texts; conditions: none. (Printed by wip/mksaga.py.)
  A saga's net, by walking the program's text; conditions: none.
  A core's Apply, by walking the program's text: placing an order; conditions: names that fit memory, int64 numbers.
  A core's Apply: an order is cancelled, by walking the program's text; conditions: int64 numbers.
  What the library's functions hand back, of which the kit's shelf has contracts, laid at this program (written by the kit's lay-shelf.mjs and lay-plain.mjs, by name); conditions: those that stand in each.
  A row of zero structs made; a one-byte slice as a string; over any program; conditions: none.
  Numbers and deeds as texts, by walking both texts and by the kit's contracts of strconv; conditions: the laid tables, int64 numbers.
  A range over a map that was there when the call began, entry by entry, whatever their order; over any program; conditions: none.
  Long regions whose order the model draws, walked in one order, where what the quiet ones read stays all the time; over any program; conditions: none.
-/
import Derived.Shelf.Strconv.Itoa0
import Derived.Shelf.Strconv.Itoa1
import Derived.Shelf.LaysM
import Derived.Shelf.Strconv.Itoa2
import Derived.Shelf.Strconv.Itoa3
import Derived.Shelf.Strconv.Itoa4
import Derived.Test.YtibabfedpdoofaaGreatDoorProg
import Derived.Laws.MakeOwn
import Derived.Laws.IdiomStrings
import Derived.Lib.ItoaLen
import Derived.Lib.AppendIntMem
import Derived.StringKeys
import Derived.Test.YtibabfedpdoofaaGreatDoorQa1
import Derived.Test.YtibabfedpdoofaaGreatDoorQa2
import Derived.Test.YtibabfedpdoofaaGreatDoorQa3
import Derived.Test.YtibabfedpdoofaaGreatDoorQa7
namespace Go.Proofs.YtibabfedpdoofaaGreatDoor
open Go.RowKit Go.Own

set_option maxHeartbeats 8000000 in
set_option maxRecDepth 100000 in
theorem reply_any (o : OrdS) (s : D6) (deed code : Int) (w : World) : Calls Tryz.prog 128 #[sagaV o s, .int .i64 deed, .int .i64 code] w fun e w' => e = .returned (replyV o (replyOf s deed code)) ∧ Below w.heap.size w w' := by
  have W := fun w => waits_any o s w
  have hcs := waitsOf_cases s
  obtain ⟨a, b, c, d, e, f, x⟩ := s
  rw [(show sagaV o ⟨a, b, c, d, e, f, x⟩ = .agg #[.int .i64 o.id, .string ⟨o.ref.toArray⟩, .string ⟨o.sku.toArray⟩, .int .i64 o.qty, .int .i64 o.amt, .int .i64 a, .int .i64 b, .int .i64 c, .int .i64 d, .int .i64 e, .int .i64 f, .bool x] from rfl)] at W ⊢
  generalize hw : waitsOf ⟨a, b, c, d, e, f, x⟩ = p at *
  obtain ⟨n, v⟩ := p
  simp only at W hcs
  rcases hcs with ⟨rfl, rfl⟩ | ⟨rfl, hcs⟩
  · have HQ := Lib.hid (show replyOf ⟨a, b, c, d, e, f, x⟩ deed code = none by simp [replyOf, hw])
    clear hw
    go_enter Tryz.func128, Tryz.ntmps128
    go_wp2_with (go_at_call 98; go_must ((with_reducible refine (W _).mono ?_); rintro e w1 ⟨rfl, hb⟩; obtain ⟨hc, hf⟩ := bcell hb; have hz := hb.size; (try simp at hz); (try have hzT := Nat.lt_of_succ_le hz); have hzA : w.heap.size < w1.heap.size := (by omega); have hzB : w.heap.size + 1 < w1.heap.size := (by omega); have hzA2 := Nat.le_of_lt hzA; have hzB2 := Nat.le_of_lt hzB; have hT := Two.of hb; obtain ⟨k0, k1, k2, k3, k4, k5, k6, k7, k8, k9, k10, k11⟩ := (hT).cells1; have f1 := (hT).f1; obtain ⟨m0, m1, m2, m3, m4, m5, m6, m7, m8, m9, m10, m11⟩ := (hT).cells2; have f2 := (hT).f2; clear hc hf; have HT := Lib.hid hT; clear hT))
    refine bodyPost_ret (v := .tuple #[noneV, .bool false]) (by unfold noneV; simp [results, Tryz.results128, go_sem, *]) rfl ⟨by rw [HQ.out]; rfl, (by with_reducible (repeat (first | assumption | exact Below.refl _ _ | refine Below.drew ?_ | refine below_drewN ?_ _ | refine Below.alloc ?_ (by first | (simp; done) | omega | (simp; omega)) _ | refine Below.setCell ?_ (by first | (simp; done) | omega | (simp; omega)) _ | refine Below.trans ?_ (Below.mono (by assumption) (by first | (simp; done) | omega | (simp; omega))))))⟩
  by_cases hd : n = deed
  rotate_left
  · have HQ := Lib.hid (show replyOf ⟨a, b, c, d, e, f, x⟩ deed code = none by simp [replyOf, hw, hd])
    have hdn : (n != deed) = true := by simpa using hd
    clear hd hw hcs
    go_enter Tryz.func128, Tryz.ntmps128
    go_wp2_with (go_at_call 98; go_must ((with_reducible refine (W _).mono ?_); rintro e w1 ⟨rfl, hb⟩; obtain ⟨hc, hf⟩ := bcell hb; have hz := hb.size; (try simp at hz); (try have hzT := Nat.lt_of_succ_le hz); have hzA : w.heap.size < w1.heap.size := (by omega); have hzB : w.heap.size + 1 < w1.heap.size := (by omega); have hzA2 := Nat.le_of_lt hzA; have hzB2 := Nat.le_of_lt hzB; have hT := Two.of hb; obtain ⟨k0, k1, k2, k3, k4, k5, k6, k7, k8, k9, k10, k11⟩ := (hT).cells1; have f1 := (hT).f1; obtain ⟨m0, m1, m2, m3, m4, m5, m6, m7, m8, m9, m10, m11⟩ := (hT).cells2; have f2 := (hT).f2; clear hc hf; have HT := Lib.hid hT; clear hT))
    refine bodyPost_ret (v := .tuple #[noneV, .bool false]) (by unfold noneV; simp [results, Tryz.results128, go_sem, *]) rfl ⟨by rw [HQ.out]; rfl, (by with_reducible (repeat (first | assumption | exact Below.refl _ _ | refine Below.drew ?_ | refine below_drewN ?_ _ | refine Below.alloc ?_ (by first | (simp; done) | omega | (simp; omega)) _ | refine Below.setCell ?_ (by first | (simp; done) | omega | (simp; omega)) _ | refine Below.trans ?_ (Below.mono (by assumption) (by first | (simp; done) | omega | (simp; omega))))))⟩
  subst hd
  by_cases h1 : code = 1
  · subst h1
    rcases hcs with rfl | rfl | rfl | rfl | rfl | rfl
    · have HQ := Lib.hid (show replyOf ⟨a, b, c, d, e, f, x⟩ 0 1 = some (onOf ⟨2, b, c, d, e, f, x⟩) by simp [replyOf, hw, setD])
      have On := fun w => on_any o ⟨2, b, c, d, e, f, x⟩ w
      generalize onOf ⟨2, b, c, d, e, f, x⟩ = z at *
      simp only [sagaV] at On
      clear hw
      go_enter Tryz.func128, Tryz.ntmps128
      go_wp2_with (go_at_call 98; go_must ((with_reducible refine (W _).mono ?_); rintro e w1 ⟨rfl, hb⟩; obtain ⟨hc, hf⟩ := bcell hb; have hz := hb.size; (try simp at hz); (try have hzT := Nat.lt_of_succ_le hz); have hzA : w.heap.size < w1.heap.size := (by omega); have hzB : w.heap.size + 1 < w1.heap.size := (by omega); have hzA2 := Nat.le_of_lt hzA; have hzB2 := Nat.le_of_lt hzB; have hT := Two.of hb; obtain ⟨k0, k1, k2, k3, k4, k5, k6, k7, k8, k9, k10, k11⟩ := (hT).cells1; have f1 := (hT).f1; obtain ⟨m0, m1, m2, m3, m4, m5, m6, m7, m8, m9, m10, m11⟩ := (hT).cells2; have f2 := (hT).f2; clear hc hf; have HT := Lib.hid hT; clear hT))
      go_wp2_with (go_at_call 155; go_must ((with_reducible refine (On _).mono ?_); rintro e w2 ⟨rfl, hb2⟩; clear k0 k1 k2 k3 k4 k5 k6 k7 k8 k9 k10 k11 f1; clear m0 m1 m2 m3 m4 m5 m6 m7 m8 m9 m10 m11 f2; have hT2 := (HT.out.set (k := 5) (by simp) (.int .i64 2)).below hb2; obtain ⟨m0, m1, m2, m3, m4, m5, m6, m7, m8, m9, m10, m11⟩ := (hT2).cells2; have f2 := (hT2).f2; have hW2 := Lib.hid (show Below w.heap.size w w2 from (Below.setCell (Below.trans (((Below.refl _ _).alloc (Nat.le_refl _) _).alloc (by simp) _) (hb.mono (by simp; omega))) (Nat.le_refl _) _).trans (hb2.mono (by simp; omega))); clear hT2 hb2 hb))
      refine bodyPost_ret (v := .tuple #[sagaV o z, .bool true]) (by unfold sagaV; simp [results, Tryz.results128, go_sem, *]) rfl ⟨by rw [HQ.out]; rfl, ?_⟩
      have hW2 := hW2.out
      (with_reducible repeat (first | assumption | refine Below.setCell ?_ (by first | exact Nat.le_refl _ | omega | (simp; done) | (simp; omega)) _))
    · have HQ := Lib.hid (show replyOf ⟨a, b, c, d, e, f, x⟩ 1 1 = some (onOf ⟨a, 2, c, d, e, f, x⟩) by simp [replyOf, hw, setD])
      have On := fun w => on_any o ⟨a, 2, c, d, e, f, x⟩ w
      generalize onOf ⟨a, 2, c, d, e, f, x⟩ = z at *
      simp only [sagaV] at On
      clear hw
      go_enter Tryz.func128, Tryz.ntmps128
      go_wp2_with (go_at_call 98; go_must ((with_reducible refine (W _).mono ?_); rintro e w1 ⟨rfl, hb⟩; obtain ⟨hc, hf⟩ := bcell hb; have hz := hb.size; (try simp at hz); (try have hzT := Nat.lt_of_succ_le hz); have hzA : w.heap.size < w1.heap.size := (by omega); have hzB : w.heap.size + 1 < w1.heap.size := (by omega); have hzA2 := Nat.le_of_lt hzA; have hzB2 := Nat.le_of_lt hzB; have hT := Two.of hb; obtain ⟨k0, k1, k2, k3, k4, k5, k6, k7, k8, k9, k10, k11⟩ := (hT).cells1; have f1 := (hT).f1; obtain ⟨m0, m1, m2, m3, m4, m5, m6, m7, m8, m9, m10, m11⟩ := (hT).cells2; have f2 := (hT).f2; clear hc hf; have HT := Lib.hid hT; clear hT))
      go_wp2_with (go_at_call 155; go_must ((with_reducible refine (On _).mono ?_); rintro e w2 ⟨rfl, hb2⟩; clear k0 k1 k2 k3 k4 k5 k6 k7 k8 k9 k10 k11 f1; clear m0 m1 m2 m3 m4 m5 m6 m7 m8 m9 m10 m11 f2; have hT2 := (HT.out.set (k := 6) (by simp) (.int .i64 2)).below hb2; obtain ⟨m0, m1, m2, m3, m4, m5, m6, m7, m8, m9, m10, m11⟩ := (hT2).cells2; have f2 := (hT2).f2; have hW2 := Lib.hid (show Below w.heap.size w w2 from (Below.setCell (Below.trans (((Below.refl _ _).alloc (Nat.le_refl _) _).alloc (by simp) _) (hb.mono (by simp; omega))) (Nat.le_refl _) _).trans (hb2.mono (by simp; omega))); clear hT2 hb2 hb))
      refine bodyPost_ret (v := .tuple #[sagaV o z, .bool true]) (by unfold sagaV; simp [results, Tryz.results128, go_sem, *]) rfl ⟨by rw [HQ.out]; rfl, ?_⟩
      have hW2 := hW2.out
      (with_reducible repeat (first | assumption | refine Below.setCell ?_ (by first | exact Nat.le_refl _ | omega | (simp; done) | (simp; omega)) _))
    · have HQ := Lib.hid (show replyOf ⟨a, b, c, d, e, f, x⟩ 2 1 = some (onOf ⟨a, b, 2, d, e, f, x⟩) by simp [replyOf, hw, setD])
      have On := fun w => on_any o ⟨a, b, 2, d, e, f, x⟩ w
      generalize onOf ⟨a, b, 2, d, e, f, x⟩ = z at *
      simp only [sagaV] at On
      clear hw
      go_enter Tryz.func128, Tryz.ntmps128
      go_wp2_with (go_at_call 98; go_must ((with_reducible refine (W _).mono ?_); rintro e w1 ⟨rfl, hb⟩; obtain ⟨hc, hf⟩ := bcell hb; have hz := hb.size; (try simp at hz); (try have hzT := Nat.lt_of_succ_le hz); have hzA : w.heap.size < w1.heap.size := (by omega); have hzB : w.heap.size + 1 < w1.heap.size := (by omega); have hzA2 := Nat.le_of_lt hzA; have hzB2 := Nat.le_of_lt hzB; have hT := Two.of hb; obtain ⟨k0, k1, k2, k3, k4, k5, k6, k7, k8, k9, k10, k11⟩ := (hT).cells1; have f1 := (hT).f1; obtain ⟨m0, m1, m2, m3, m4, m5, m6, m7, m8, m9, m10, m11⟩ := (hT).cells2; have f2 := (hT).f2; clear hc hf; have HT := Lib.hid hT; clear hT))
      go_wp2_with (go_at_call 155; go_must ((with_reducible refine (On _).mono ?_); rintro e w2 ⟨rfl, hb2⟩; clear k0 k1 k2 k3 k4 k5 k6 k7 k8 k9 k10 k11 f1; clear m0 m1 m2 m3 m4 m5 m6 m7 m8 m9 m10 m11 f2; have hT2 := (HT.out.set (k := 7) (by simp) (.int .i64 2)).below hb2; obtain ⟨m0, m1, m2, m3, m4, m5, m6, m7, m8, m9, m10, m11⟩ := (hT2).cells2; have f2 := (hT2).f2; have hW2 := Lib.hid (show Below w.heap.size w w2 from (Below.setCell (Below.trans (((Below.refl _ _).alloc (Nat.le_refl _) _).alloc (by simp) _) (hb.mono (by simp; omega))) (Nat.le_refl _) _).trans (hb2.mono (by simp; omega))); clear hT2 hb2 hb))
      refine bodyPost_ret (v := .tuple #[sagaV o z, .bool true]) (by unfold sagaV; simp [results, Tryz.results128, go_sem, *]) rfl ⟨by rw [HQ.out]; rfl, ?_⟩
      have hW2 := hW2.out
      (with_reducible repeat (first | assumption | refine Below.setCell ?_ (by first | exact Nat.le_refl _ | omega | (simp; done) | (simp; omega)) _))
    · have HQ := Lib.hid (show replyOf ⟨a, b, c, d, e, f, x⟩ 3 1 = some (onOf ⟨a, b, c, 2, e, f, x⟩) by simp [replyOf, hw, setD])
      have On := fun w => on_any o ⟨a, b, c, 2, e, f, x⟩ w
      generalize onOf ⟨a, b, c, 2, e, f, x⟩ = z at *
      simp only [sagaV] at On
      clear hw
      go_enter Tryz.func128, Tryz.ntmps128
      go_wp2_with (go_at_call 98; go_must ((with_reducible refine (W _).mono ?_); rintro e w1 ⟨rfl, hb⟩; obtain ⟨hc, hf⟩ := bcell hb; have hz := hb.size; (try simp at hz); (try have hzT := Nat.lt_of_succ_le hz); have hzA : w.heap.size < w1.heap.size := (by omega); have hzB : w.heap.size + 1 < w1.heap.size := (by omega); have hzA2 := Nat.le_of_lt hzA; have hzB2 := Nat.le_of_lt hzB; have hT := Two.of hb; obtain ⟨k0, k1, k2, k3, k4, k5, k6, k7, k8, k9, k10, k11⟩ := (hT).cells1; have f1 := (hT).f1; obtain ⟨m0, m1, m2, m3, m4, m5, m6, m7, m8, m9, m10, m11⟩ := (hT).cells2; have f2 := (hT).f2; clear hc hf; have HT := Lib.hid hT; clear hT))
      go_wp2_with (go_at_call 155; go_must ((with_reducible refine (On _).mono ?_); rintro e w2 ⟨rfl, hb2⟩; clear k0 k1 k2 k3 k4 k5 k6 k7 k8 k9 k10 k11 f1; clear m0 m1 m2 m3 m4 m5 m6 m7 m8 m9 m10 m11 f2; have hT2 := (HT.out.set (k := 8) (by simp) (.int .i64 2)).below hb2; obtain ⟨m0, m1, m2, m3, m4, m5, m6, m7, m8, m9, m10, m11⟩ := (hT2).cells2; have f2 := (hT2).f2; have hW2 := Lib.hid (show Below w.heap.size w w2 from (Below.setCell (Below.trans (((Below.refl _ _).alloc (Nat.le_refl _) _).alloc (by simp) _) (hb.mono (by simp; omega))) (Nat.le_refl _) _).trans (hb2.mono (by simp; omega))); clear hT2 hb2 hb))
      refine bodyPost_ret (v := .tuple #[sagaV o z, .bool true]) (by unfold sagaV; simp [results, Tryz.results128, go_sem, *]) rfl ⟨by rw [HQ.out]; rfl, ?_⟩
      have hW2 := hW2.out
      (with_reducible repeat (first | assumption | refine Below.setCell ?_ (by first | exact Nat.le_refl _ | omega | (simp; done) | (simp; omega)) _))
    · have HQ := Lib.hid (show replyOf ⟨a, b, c, d, e, f, x⟩ 4 1 = some (onOf ⟨a, b, c, d, 2, f, x⟩) by simp [replyOf, hw, setD])
      have On := fun w => on_any o ⟨a, b, c, d, 2, f, x⟩ w
      generalize onOf ⟨a, b, c, d, 2, f, x⟩ = z at *
      simp only [sagaV] at On
      clear hw
      go_enter Tryz.func128, Tryz.ntmps128
      go_wp2_with (go_at_call 98; go_must ((with_reducible refine (W _).mono ?_); rintro e w1 ⟨rfl, hb⟩; obtain ⟨hc, hf⟩ := bcell hb; have hz := hb.size; (try simp at hz); (try have hzT := Nat.lt_of_succ_le hz); have hzA : w.heap.size < w1.heap.size := (by omega); have hzB : w.heap.size + 1 < w1.heap.size := (by omega); have hzA2 := Nat.le_of_lt hzA; have hzB2 := Nat.le_of_lt hzB; have hT := Two.of hb; obtain ⟨k0, k1, k2, k3, k4, k5, k6, k7, k8, k9, k10, k11⟩ := (hT).cells1; have f1 := (hT).f1; obtain ⟨m0, m1, m2, m3, m4, m5, m6, m7, m8, m9, m10, m11⟩ := (hT).cells2; have f2 := (hT).f2; clear hc hf; have HT := Lib.hid hT; clear hT))
      go_wp2_with (go_at_call 155; go_must ((with_reducible refine (On _).mono ?_); rintro e w2 ⟨rfl, hb2⟩; clear k0 k1 k2 k3 k4 k5 k6 k7 k8 k9 k10 k11 f1; clear m0 m1 m2 m3 m4 m5 m6 m7 m8 m9 m10 m11 f2; have hT2 := (HT.out.set (k := 9) (by simp) (.int .i64 2)).below hb2; obtain ⟨m0, m1, m2, m3, m4, m5, m6, m7, m8, m9, m10, m11⟩ := (hT2).cells2; have f2 := (hT2).f2; have hW2 := Lib.hid (show Below w.heap.size w w2 from (Below.setCell (Below.trans (((Below.refl _ _).alloc (Nat.le_refl _) _).alloc (by simp) _) (hb.mono (by simp; omega))) (Nat.le_refl _) _).trans (hb2.mono (by simp; omega))); clear hT2 hb2 hb))
      refine bodyPost_ret (v := .tuple #[sagaV o z, .bool true]) (by unfold sagaV; simp [results, Tryz.results128, go_sem, *]) rfl ⟨by rw [HQ.out]; rfl, ?_⟩
      have hW2 := hW2.out
      (with_reducible repeat (first | assumption | refine Below.setCell ?_ (by first | exact Nat.le_refl _ | omega | (simp; done) | (simp; omega)) _))
    · have HQ := Lib.hid (show replyOf ⟨a, b, c, d, e, f, x⟩ 5 1 = some (onOf ⟨a, b, c, d, e, 2, x⟩) by simp [replyOf, hw, setD])
      have On := fun w => on_any o ⟨a, b, c, d, e, 2, x⟩ w
      generalize onOf ⟨a, b, c, d, e, 2, x⟩ = z at *
      simp only [sagaV] at On
      clear hw
      go_enter Tryz.func128, Tryz.ntmps128
      go_wp2_with (go_at_call 98; go_must ((with_reducible refine (W _).mono ?_); rintro e w1 ⟨rfl, hb⟩; obtain ⟨hc, hf⟩ := bcell hb; have hz := hb.size; (try simp at hz); (try have hzT := Nat.lt_of_succ_le hz); have hzA : w.heap.size < w1.heap.size := (by omega); have hzB : w.heap.size + 1 < w1.heap.size := (by omega); have hzA2 := Nat.le_of_lt hzA; have hzB2 := Nat.le_of_lt hzB; have hT := Two.of hb; obtain ⟨k0, k1, k2, k3, k4, k5, k6, k7, k8, k9, k10, k11⟩ := (hT).cells1; have f1 := (hT).f1; obtain ⟨m0, m1, m2, m3, m4, m5, m6, m7, m8, m9, m10, m11⟩ := (hT).cells2; have f2 := (hT).f2; clear hc hf; have HT := Lib.hid hT; clear hT))
      go_wp2_with (go_at_call 155; go_must ((with_reducible refine (On _).mono ?_); rintro e w2 ⟨rfl, hb2⟩; clear k0 k1 k2 k3 k4 k5 k6 k7 k8 k9 k10 k11 f1; clear m0 m1 m2 m3 m4 m5 m6 m7 m8 m9 m10 m11 f2; have hT2 := (HT.out.set (k := 10) (by simp) (.int .i64 2)).below hb2; obtain ⟨m0, m1, m2, m3, m4, m5, m6, m7, m8, m9, m10, m11⟩ := (hT2).cells2; have f2 := (hT2).f2; have hW2 := Lib.hid (show Below w.heap.size w w2 from (Below.setCell (Below.trans (((Below.refl _ _).alloc (Nat.le_refl _) _).alloc (by simp) _) (hb.mono (by simp; omega))) (Nat.le_refl _) _).trans (hb2.mono (by simp; omega))); clear hT2 hb2 hb))
      refine bodyPost_ret (v := .tuple #[sagaV o z, .bool true]) (by unfold sagaV; simp [results, Tryz.results128, go_sem, *]) rfl ⟨by rw [HQ.out]; rfl, ?_⟩
      have hW2 := hW2.out
      (with_reducible repeat (first | assumption | refine Below.setCell ?_ (by first | exact Nat.le_refl _ | omega | (simp; done) | (simp; omega)) _))
  by_cases h2 : code = 2
  rotate_left
  · have HQ := Lib.hid (show replyOf ⟨a, b, c, d, e, f, x⟩ n code = none by simp [replyOf, hw, h1, h2])
    have h1n : (code != 1) = true := by simpa using h1
    have h2n : (code != 2) = true := by simpa using h2
    have h1e : (code == 1) = false := by simpa using h1
    have h2e : (code == 2) = false := by simpa using h2
    clear h1 h2 hw hcs
    go_enter Tryz.func128, Tryz.ntmps128
    go_wp2_with (go_at_call 98; go_must ((with_reducible refine (W _).mono ?_); rintro e w1 ⟨rfl, hb⟩; obtain ⟨hc, hf⟩ := bcell hb; have hz := hb.size; (try simp at hz); (try have hzT := Nat.lt_of_succ_le hz); have hzA : w.heap.size < w1.heap.size := (by omega); have hzB : w.heap.size + 1 < w1.heap.size := (by omega); have hzA2 := Nat.le_of_lt hzA; have hzB2 := Nat.le_of_lt hzB; have hT := Two.of hb; obtain ⟨k0, k1, k2, k3, k4, k5, k6, k7, k8, k9, k10, k11⟩ := (hT).cells1; have f1 := (hT).f1; obtain ⟨m0, m1, m2, m3, m4, m5, m6, m7, m8, m9, m10, m11⟩ := (hT).cells2; have f2 := (hT).f2; clear hc hf; have HT := Lib.hid hT; clear hT))
    refine bodyPost_ret (v := .tuple #[noneV, .bool false]) (by unfold noneV; simp [results, Tryz.results128, go_sem, *]) rfl ⟨by rw [HQ.out]; rfl, (by with_reducible (repeat (first | assumption | exact Below.refl _ _ | refine Below.drew ?_ | refine below_drewN ?_ _ | refine Below.alloc ?_ (by first | (simp; done) | omega | (simp; omega)) _ | refine Below.setCell ?_ (by first | (simp; done) | omega | (simp; omega)) _ | refine Below.trans ?_ (Below.mono (by assumption) (by first | (simp; done) | omega | (simp; omega))))))⟩
  subst h2
  by_cases h3 : n ≤ 2
  rotate_left
  · have HQ := Lib.hid (show replyOf ⟨a, b, c, d, e, f, x⟩ n 2 = none by simp [replyOf, hw, h3])
    have h3n : 2 < n := by omega
    clear h3 hw hcs h1
    go_enter Tryz.func128, Tryz.ntmps128
    go_wp2_with (go_at_call 98; go_must ((with_reducible refine (W _).mono ?_); rintro e w1 ⟨rfl, hb⟩; obtain ⟨hc, hf⟩ := bcell hb; have hz := hb.size; (try simp at hz); (try have hzT := Nat.lt_of_succ_le hz); have hzA : w.heap.size < w1.heap.size := (by omega); have hzB : w.heap.size + 1 < w1.heap.size := (by omega); have hzA2 := Nat.le_of_lt hzA; have hzB2 := Nat.le_of_lt hzB; have hT := Two.of hb; obtain ⟨k0, k1, k2, k3, k4, k5, k6, k7, k8, k9, k10, k11⟩ := (hT).cells1; have f1 := (hT).f1; obtain ⟨m0, m1, m2, m3, m4, m5, m6, m7, m8, m9, m10, m11⟩ := (hT).cells2; have f2 := (hT).f2; clear hc hf; have HT := Lib.hid hT; clear hT))
    refine bodyPost_ret (v := .tuple #[noneV, .bool false]) (by unfold noneV; simp [results, Tryz.results128, go_sem, *]) rfl ⟨by rw [HQ.out]; rfl, (by with_reducible (repeat (first | assumption | exact Below.refl _ _ | refine Below.drew ?_ | refine below_drewN ?_ _ | refine Below.alloc ?_ (by first | (simp; done) | omega | (simp; omega)) _ | refine Below.setCell ?_ (by first | (simp; done) | omega | (simp; omega)) _ | refine Below.trans ?_ (Below.mono (by assumption) (by first | (simp; done) | omega | (simp; omega))))))⟩
  clear h1
  rcases hcs with rfl | rfl | rfl | rfl | rfl | rfl
  · have HQ := Lib.hid (show replyOf ⟨a, b, c, d, e, f, x⟩ 0 2 = some (onOf ⟨3, b, c, d, e, f, x⟩) by simp [replyOf, hw, setD])
    have On := fun w => on_any o ⟨3, b, c, d, e, f, x⟩ w
    generalize onOf ⟨3, b, c, d, e, f, x⟩ = z at *
    simp only [sagaV] at On
    clear hw
    go_enter Tryz.func128, Tryz.ntmps128
    go_wp2_with (go_at_call 98; go_must ((with_reducible refine (W _).mono ?_); rintro e w1 ⟨rfl, hb⟩; obtain ⟨hc, hf⟩ := bcell hb; have hz := hb.size; (try simp at hz); (try have hzT := Nat.lt_of_succ_le hz); have hzA : w.heap.size < w1.heap.size := (by omega); have hzB : w.heap.size + 1 < w1.heap.size := (by omega); have hzA2 := Nat.le_of_lt hzA; have hzB2 := Nat.le_of_lt hzB; have hT := Two.of hb; obtain ⟨k0, k1, k2, k3, k4, k5, k6, k7, k8, k9, k10, k11⟩ := (hT).cells1; have f1 := (hT).f1; obtain ⟨m0, m1, m2, m3, m4, m5, m6, m7, m8, m9, m10, m11⟩ := (hT).cells2; have f2 := (hT).f2; clear hc hf; have HT := Lib.hid hT; clear hT))
    go_wp2_with (go_at_call 155; go_must ((with_reducible refine (On _).mono ?_); rintro e w2 ⟨rfl, hb2⟩; clear k0 k1 k2 k3 k4 k5 k6 k7 k8 k9 k10 k11 f1; clear m0 m1 m2 m3 m4 m5 m6 m7 m8 m9 m10 m11 f2; have hT2 := (HT.out.set (k := 5) (by simp) (.int .i64 3)).below hb2; obtain ⟨m0, m1, m2, m3, m4, m5, m6, m7, m8, m9, m10, m11⟩ := (hT2).cells2; have f2 := (hT2).f2; have hW2 := Lib.hid (show Below w.heap.size w w2 from (Below.setCell (Below.trans (((Below.refl _ _).alloc (Nat.le_refl _) _).alloc (by simp) _) (hb.mono (by simp; omega))) (Nat.le_refl _) _).trans (hb2.mono (by simp; omega))); clear hT2 hb2 hb))
    refine bodyPost_ret (v := .tuple #[sagaV o z, .bool true]) (by unfold sagaV; simp [results, Tryz.results128, go_sem, *]) rfl ⟨by rw [HQ.out]; rfl, ?_⟩
    have hW2 := hW2.out
    (with_reducible repeat (first | assumption | refine Below.setCell ?_ (by first | exact Nat.le_refl _ | omega | (simp; done) | (simp; omega)) _))
  · have HQ := Lib.hid (show replyOf ⟨a, b, c, d, e, f, x⟩ 1 2 = some (onOf ⟨a, 3, c, d, e, f, x⟩) by simp [replyOf, hw, setD])
    have On := fun w => on_any o ⟨a, 3, c, d, e, f, x⟩ w
    generalize onOf ⟨a, 3, c, d, e, f, x⟩ = z at *
    simp only [sagaV] at On
    clear hw
    go_enter Tryz.func128, Tryz.ntmps128
    go_wp2_with (go_at_call 98; go_must ((with_reducible refine (W _).mono ?_); rintro e w1 ⟨rfl, hb⟩; obtain ⟨hc, hf⟩ := bcell hb; have hz := hb.size; (try simp at hz); (try have hzT := Nat.lt_of_succ_le hz); have hzA : w.heap.size < w1.heap.size := (by omega); have hzB : w.heap.size + 1 < w1.heap.size := (by omega); have hzA2 := Nat.le_of_lt hzA; have hzB2 := Nat.le_of_lt hzB; have hT := Two.of hb; obtain ⟨k0, k1, k2, k3, k4, k5, k6, k7, k8, k9, k10, k11⟩ := (hT).cells1; have f1 := (hT).f1; obtain ⟨m0, m1, m2, m3, m4, m5, m6, m7, m8, m9, m10, m11⟩ := (hT).cells2; have f2 := (hT).f2; clear hc hf; have HT := Lib.hid hT; clear hT))
    go_wp2_with (go_at_call 155; go_must ((with_reducible refine (On _).mono ?_); rintro e w2 ⟨rfl, hb2⟩; clear k0 k1 k2 k3 k4 k5 k6 k7 k8 k9 k10 k11 f1; clear m0 m1 m2 m3 m4 m5 m6 m7 m8 m9 m10 m11 f2; have hT2 := (HT.out.set (k := 6) (by simp) (.int .i64 3)).below hb2; obtain ⟨m0, m1, m2, m3, m4, m5, m6, m7, m8, m9, m10, m11⟩ := (hT2).cells2; have f2 := (hT2).f2; have hW2 := Lib.hid (show Below w.heap.size w w2 from (Below.setCell (Below.trans (((Below.refl _ _).alloc (Nat.le_refl _) _).alloc (by simp) _) (hb.mono (by simp; omega))) (Nat.le_refl _) _).trans (hb2.mono (by simp; omega))); clear hT2 hb2 hb))
    refine bodyPost_ret (v := .tuple #[sagaV o z, .bool true]) (by unfold sagaV; simp [results, Tryz.results128, go_sem, *]) rfl ⟨by rw [HQ.out]; rfl, ?_⟩
    have hW2 := hW2.out
    (with_reducible repeat (first | assumption | refine Below.setCell ?_ (by first | exact Nat.le_refl _ | omega | (simp; done) | (simp; omega)) _))
  · have HQ := Lib.hid (show replyOf ⟨a, b, c, d, e, f, x⟩ 2 2 = some (onOf ⟨a, b, 3, d, e, f, x⟩) by simp [replyOf, hw, setD])
    have On := fun w => on_any o ⟨a, b, 3, d, e, f, x⟩ w
    generalize onOf ⟨a, b, 3, d, e, f, x⟩ = z at *
    simp only [sagaV] at On
    clear hw
    go_enter Tryz.func128, Tryz.ntmps128
    go_wp2_with (go_at_call 98; go_must ((with_reducible refine (W _).mono ?_); rintro e w1 ⟨rfl, hb⟩; obtain ⟨hc, hf⟩ := bcell hb; have hz := hb.size; (try simp at hz); (try have hzT := Nat.lt_of_succ_le hz); have hzA : w.heap.size < w1.heap.size := (by omega); have hzB : w.heap.size + 1 < w1.heap.size := (by omega); have hzA2 := Nat.le_of_lt hzA; have hzB2 := Nat.le_of_lt hzB; have hT := Two.of hb; obtain ⟨k0, k1, k2, k3, k4, k5, k6, k7, k8, k9, k10, k11⟩ := (hT).cells1; have f1 := (hT).f1; obtain ⟨m0, m1, m2, m3, m4, m5, m6, m7, m8, m9, m10, m11⟩ := (hT).cells2; have f2 := (hT).f2; clear hc hf; have HT := Lib.hid hT; clear hT))
    go_wp2_with (go_at_call 155; go_must ((with_reducible refine (On _).mono ?_); rintro e w2 ⟨rfl, hb2⟩; clear k0 k1 k2 k3 k4 k5 k6 k7 k8 k9 k10 k11 f1; clear m0 m1 m2 m3 m4 m5 m6 m7 m8 m9 m10 m11 f2; have hT2 := (HT.out.set (k := 7) (by simp) (.int .i64 3)).below hb2; obtain ⟨m0, m1, m2, m3, m4, m5, m6, m7, m8, m9, m10, m11⟩ := (hT2).cells2; have f2 := (hT2).f2; have hW2 := Lib.hid (show Below w.heap.size w w2 from (Below.setCell (Below.trans (((Below.refl _ _).alloc (Nat.le_refl _) _).alloc (by simp) _) (hb.mono (by simp; omega))) (Nat.le_refl _) _).trans (hb2.mono (by simp; omega))); clear hT2 hb2 hb))
    refine bodyPost_ret (v := .tuple #[sagaV o z, .bool true]) (by unfold sagaV; simp [results, Tryz.results128, go_sem, *]) rfl ⟨by rw [HQ.out]; rfl, ?_⟩
    have hW2 := hW2.out
    (with_reducible repeat (first | assumption | refine Below.setCell ?_ (by first | exact Nat.le_refl _ | omega | (simp; done) | (simp; omega)) _))
  · omega
  · omega
  · omega
end Go.Proofs.YtibabfedpdoofaaGreatDoor
namespace Go.Proofs.YtibabfedpdoofaaGreatDoor
open Go.RowKit Go.Own
theorem stateOf_go (s : D6) (h : stateOf s = 0) : (waitsOf s).2 = true := by
  unfold stateOf at h
  (repeat' split at h) <;> simp_all

set_option maxHeartbeats 8000000 in
set_option maxRecDepth 100000 in
theorem stop_any (o : OrdS) (s : D6) (w : World) : Calls Tryz.prog 127 #[sagaV o s] w fun e w' => e = .returned (stopV o (stopOf s)) ∧ Below w.heap.size w w' := by
  have S := fun w => state_any o s w
  have W := fun w => waits_any o s w
  have hcs := waitsOf_cases s
  have hgo := stateOf_go s
  obtain ⟨a, b, c, d, e, f, x⟩ := s
  rw [(show sagaV o ⟨a, b, c, d, e, f, x⟩ = .agg #[.int .i64 o.id, .string ⟨o.ref.toArray⟩, .string ⟨o.sku.toArray⟩, .int .i64 o.qty, .int .i64 o.amt, .int .i64 a, .int .i64 b, .int .i64 c, .int .i64 d, .int .i64 e, .int .i64 f, .bool x] from rfl)] at S W ⊢
  by_cases hs : stateOf ⟨a, b, c, d, e, f, x⟩ = 0
  rotate_left
  · have HQ := Lib.hid (show stopOf ⟨a, b, c, d, e, f, x⟩ = none by simp [stopOf, hs])
    clear hcs hgo W
    generalize stateOf ⟨a, b, c, d, e, f, x⟩ = q at *
    have hsn : (q != 0) = true := by simpa using hs
    clear hs
    go_enter Tryz.func127, Tryz.ntmps127
    go_wp2_with (go_at_call 38; go_must ((with_reducible refine (S _).mono ?_); rintro e w1 ⟨rfl, hb⟩; obtain ⟨hc, hf⟩ := bcell hb; have hz := hb.size; (try simp at hz); (try have hzT := Nat.lt_of_succ_le hz); have hzA : w.heap.size < w1.heap.size := (by omega); have hzB : w.heap.size + 1 < w1.heap.size := (by omega); have hzA2 := Nat.le_of_lt hzA; have hzB2 := Nat.le_of_lt hzB; have hT := Two.of hb; obtain ⟨k0, k1, k2, k3, k4, k5, k6, k7, k8, k9, k10, k11⟩ := (hT).cells1; have f1 := (hT).f1; obtain ⟨m0, m1, m2, m3, m4, m5, m6, m7, m8, m9, m10, m11⟩ := (hT).cells2; have f2 := (hT).f2; clear hc hf hT))
    refine bodyPost_ret (v := .tuple #[noneV, .int .i64 92]) (by unfold noneV; simp [results, Tryz.results127, go_sem, *]) rfl ⟨by rw [HQ.out]; rfl, (by with_reducible (repeat (first | assumption | exact Below.refl _ _ | refine Below.drew ?_ | refine below_drewN ?_ _ | refine Below.alloc ?_ (by first | (simp; done) | omega | (simp; omega)) _ | refine Below.setCell ?_ (by first | (simp; done) | omega | (simp; omega)) _ | refine Below.trans ?_ (Below.mono (by assumption) (by first | (simp; done) | omega | (simp; omega))))))⟩
  have hv := hgo hs
  clear hgo
  have HS := Lib.hid hs
  rw [hs] at S
  clear hs
  generalize hw : waitsOf ⟨a, b, c, d, e, f, x⟩ = p at *
  obtain ⟨n, v⟩ := p
  simp only at W hcs hv
  subst hv
  rcases hcs with ⟨h0, _⟩ | ⟨_, hcs⟩
  · cases h0
  rcases hcs with rfl | rfl | rfl | rfl | rfl | rfl
  · have HQ := Lib.hid (show stopOf ⟨a, b, c, d, e, f, x⟩ = some (onOf ⟨4, b, c, d, e, f, true⟩) by have h0 := HS.out; simp [stopOf, h0, hw, setD])
    have On := fun w => on_any o ⟨4, b, c, d, e, f, true⟩ w
    generalize onOf ⟨4, b, c, d, e, f, true⟩ = z at *
    simp only [sagaV] at On
    clear hw HS
    go_enter Tryz.func127, Tryz.ntmps127
    go_wp2_with (go_at_call 38; go_must ((with_reducible refine (S _).mono ?_); rintro e w1 ⟨rfl, hb⟩; have hT := Two.of hb; have HB1 := Lib.hid (show Below w.heap.size w w1 from Below.trans (((Below.refl _ _).alloc (Nat.le_refl _) _).alloc (by simp) _) (hb.mono (by simp; omega))); have hz1 := hT.lt; obtain ⟨k0, k1, k2, k3, k4, k5, k6, k7, k8, k9, k10, k11⟩ := (hT).cells1; have f1 := (hT).f1; have HT := Lib.hid hT; clear hT hb))
    go_wp2_with (go_at_call 98; go_must ((with_reducible refine (W _).mono ?_); rintro e w2 ⟨rfl, hb⟩; clear k0 k1 k2 k3 k4 k5 k6 k7 k8 k9 k10 k11 f1; have hT := HT.out.below hb; have HB2 := Lib.hid (HB1.out.trans (hb.mono (by omega))); have hz2 := hT.lt; obtain ⟨k0, k1, k2, k3, k4, k5, k6, k7, k8, k9, k10, k11⟩ := (hT).cells1; have f1 := (hT).f1; have HT2 := Lib.hid hT; clear hT hb))
    go_wp2_with (go_at_call 155; go_must ((with_reducible refine (On _).mono ?_); rintro e w3 ⟨rfl, hb⟩; clear k0 k1 k2 k3 k4 k5 k6 k7 k8 k9 k10 k11 f1; have hT := ((HT2.out.set (k := 5) (by simp) (.int .i64 4)).set (k := 11) (by simp) (.bool true)).below hb; have hW2 := Lib.hid (show Below w.heap.size w w3 from ((HB2.out.setCell (Nat.le_refl _) _).setCell (Nat.le_refl _) _).trans (hb.mono (by simp; omega))); have hz3 := hT.lt; obtain ⟨m0, m1, m2, m3, m4, m5, m6, m7, m8, m9, m10, m11⟩ := (hT).cells2; have f2 := (hT).f2; clear hT hb))
    refine bodyPost_ret (v := .tuple #[sagaV o z, .int .i64 0]) (by unfold sagaV; simp [results, Tryz.results127, go_sem, *]) rfl ⟨by rw [HQ.out]; rfl, ?_⟩
    have hW2 := hW2.out
    (with_reducible repeat (first | assumption | refine Below.setCell ?_ (by first | exact Nat.le_refl _ | omega | (simp; done) | (simp; omega)) _))
  · have HQ := Lib.hid (show stopOf ⟨a, b, c, d, e, f, x⟩ = some (onOf ⟨a, 4, c, d, e, f, true⟩) by have h0 := HS.out; simp [stopOf, h0, hw, setD])
    have On := fun w => on_any o ⟨a, 4, c, d, e, f, true⟩ w
    generalize onOf ⟨a, 4, c, d, e, f, true⟩ = z at *
    simp only [sagaV] at On
    clear hw HS
    go_enter Tryz.func127, Tryz.ntmps127
    go_wp2_with (go_at_call 38; go_must ((with_reducible refine (S _).mono ?_); rintro e w1 ⟨rfl, hb⟩; have hT := Two.of hb; have HB1 := Lib.hid (show Below w.heap.size w w1 from Below.trans (((Below.refl _ _).alloc (Nat.le_refl _) _).alloc (by simp) _) (hb.mono (by simp; omega))); have hz1 := hT.lt; obtain ⟨k0, k1, k2, k3, k4, k5, k6, k7, k8, k9, k10, k11⟩ := (hT).cells1; have f1 := (hT).f1; have HT := Lib.hid hT; clear hT hb))
    go_wp2_with (go_at_call 98; go_must ((with_reducible refine (W _).mono ?_); rintro e w2 ⟨rfl, hb⟩; clear k0 k1 k2 k3 k4 k5 k6 k7 k8 k9 k10 k11 f1; have hT := HT.out.below hb; have HB2 := Lib.hid (HB1.out.trans (hb.mono (by omega))); have hz2 := hT.lt; obtain ⟨k0, k1, k2, k3, k4, k5, k6, k7, k8, k9, k10, k11⟩ := (hT).cells1; have f1 := (hT).f1; have HT2 := Lib.hid hT; clear hT hb))
    go_wp2_with (go_at_call 155; go_must ((with_reducible refine (On _).mono ?_); rintro e w3 ⟨rfl, hb⟩; clear k0 k1 k2 k3 k4 k5 k6 k7 k8 k9 k10 k11 f1; have hT := ((HT2.out.set (k := 6) (by simp) (.int .i64 4)).set (k := 11) (by simp) (.bool true)).below hb; have hW2 := Lib.hid (show Below w.heap.size w w3 from ((HB2.out.setCell (Nat.le_refl _) _).setCell (Nat.le_refl _) _).trans (hb.mono (by simp; omega))); have hz3 := hT.lt; obtain ⟨m0, m1, m2, m3, m4, m5, m6, m7, m8, m9, m10, m11⟩ := (hT).cells2; have f2 := (hT).f2; clear hT hb))
    refine bodyPost_ret (v := .tuple #[sagaV o z, .int .i64 0]) (by unfold sagaV; simp [results, Tryz.results127, go_sem, *]) rfl ⟨by rw [HQ.out]; rfl, ?_⟩
    have hW2 := hW2.out
    (with_reducible repeat (first | assumption | refine Below.setCell ?_ (by first | exact Nat.le_refl _ | omega | (simp; done) | (simp; omega)) _))
  · have HQ := Lib.hid (show stopOf ⟨a, b, c, d, e, f, x⟩ = some (onOf ⟨a, b, 4, d, e, f, true⟩) by have h0 := HS.out; simp [stopOf, h0, hw, setD])
    have On := fun w => on_any o ⟨a, b, 4, d, e, f, true⟩ w
    generalize onOf ⟨a, b, 4, d, e, f, true⟩ = z at *
    simp only [sagaV] at On
    clear hw HS
    go_enter Tryz.func127, Tryz.ntmps127
    go_wp2_with (go_at_call 38; go_must ((with_reducible refine (S _).mono ?_); rintro e w1 ⟨rfl, hb⟩; have hT := Two.of hb; have HB1 := Lib.hid (show Below w.heap.size w w1 from Below.trans (((Below.refl _ _).alloc (Nat.le_refl _) _).alloc (by simp) _) (hb.mono (by simp; omega))); have hz1 := hT.lt; obtain ⟨k0, k1, k2, k3, k4, k5, k6, k7, k8, k9, k10, k11⟩ := (hT).cells1; have f1 := (hT).f1; have HT := Lib.hid hT; clear hT hb))
    go_wp2_with (go_at_call 98; go_must ((with_reducible refine (W _).mono ?_); rintro e w2 ⟨rfl, hb⟩; clear k0 k1 k2 k3 k4 k5 k6 k7 k8 k9 k10 k11 f1; have hT := HT.out.below hb; have HB2 := Lib.hid (HB1.out.trans (hb.mono (by omega))); have hz2 := hT.lt; obtain ⟨k0, k1, k2, k3, k4, k5, k6, k7, k8, k9, k10, k11⟩ := (hT).cells1; have f1 := (hT).f1; have HT2 := Lib.hid hT; clear hT hb))
    go_wp2_with (go_at_call 155; go_must ((with_reducible refine (On _).mono ?_); rintro e w3 ⟨rfl, hb⟩; clear k0 k1 k2 k3 k4 k5 k6 k7 k8 k9 k10 k11 f1; have hT := ((HT2.out.set (k := 7) (by simp) (.int .i64 4)).set (k := 11) (by simp) (.bool true)).below hb; have hW2 := Lib.hid (show Below w.heap.size w w3 from ((HB2.out.setCell (Nat.le_refl _) _).setCell (Nat.le_refl _) _).trans (hb.mono (by simp; omega))); have hz3 := hT.lt; obtain ⟨m0, m1, m2, m3, m4, m5, m6, m7, m8, m9, m10, m11⟩ := (hT).cells2; have f2 := (hT).f2; clear hT hb))
    refine bodyPost_ret (v := .tuple #[sagaV o z, .int .i64 0]) (by unfold sagaV; simp [results, Tryz.results127, go_sem, *]) rfl ⟨by rw [HQ.out]; rfl, ?_⟩
    have hW2 := hW2.out
    (with_reducible repeat (first | assumption | refine Below.setCell ?_ (by first | exact Nat.le_refl _ | omega | (simp; done) | (simp; omega)) _))
  · have HQ := Lib.hid (show stopOf ⟨a, b, c, d, e, f, x⟩ = some (onOf ⟨a, b, c, 4, e, f, true⟩) by have h0 := HS.out; simp [stopOf, h0, hw, setD])
    have On := fun w => on_any o ⟨a, b, c, 4, e, f, true⟩ w
    generalize onOf ⟨a, b, c, 4, e, f, true⟩ = z at *
    simp only [sagaV] at On
    clear hw HS
    go_enter Tryz.func127, Tryz.ntmps127
    go_wp2_with (go_at_call 38; go_must ((with_reducible refine (S _).mono ?_); rintro e w1 ⟨rfl, hb⟩; have hT := Two.of hb; have HB1 := Lib.hid (show Below w.heap.size w w1 from Below.trans (((Below.refl _ _).alloc (Nat.le_refl _) _).alloc (by simp) _) (hb.mono (by simp; omega))); have hz1 := hT.lt; obtain ⟨k0, k1, k2, k3, k4, k5, k6, k7, k8, k9, k10, k11⟩ := (hT).cells1; have f1 := (hT).f1; have HT := Lib.hid hT; clear hT hb))
    go_wp2_with (go_at_call 98; go_must ((with_reducible refine (W _).mono ?_); rintro e w2 ⟨rfl, hb⟩; clear k0 k1 k2 k3 k4 k5 k6 k7 k8 k9 k10 k11 f1; have hT := HT.out.below hb; have HB2 := Lib.hid (HB1.out.trans (hb.mono (by omega))); have hz2 := hT.lt; obtain ⟨k0, k1, k2, k3, k4, k5, k6, k7, k8, k9, k10, k11⟩ := (hT).cells1; have f1 := (hT).f1; have HT2 := Lib.hid hT; clear hT hb))
    go_wp2_with (go_at_call 155; go_must ((with_reducible refine (On _).mono ?_); rintro e w3 ⟨rfl, hb⟩; clear k0 k1 k2 k3 k4 k5 k6 k7 k8 k9 k10 k11 f1; have hT := ((HT2.out.set (k := 8) (by simp) (.int .i64 4)).set (k := 11) (by simp) (.bool true)).below hb; have hW2 := Lib.hid (show Below w.heap.size w w3 from ((HB2.out.setCell (Nat.le_refl _) _).setCell (Nat.le_refl _) _).trans (hb.mono (by simp; omega))); have hz3 := hT.lt; obtain ⟨m0, m1, m2, m3, m4, m5, m6, m7, m8, m9, m10, m11⟩ := (hT).cells2; have f2 := (hT).f2; clear hT hb))
    refine bodyPost_ret (v := .tuple #[sagaV o z, .int .i64 0]) (by unfold sagaV; simp [results, Tryz.results127, go_sem, *]) rfl ⟨by rw [HQ.out]; rfl, ?_⟩
    have hW2 := hW2.out
    (with_reducible repeat (first | assumption | refine Below.setCell ?_ (by first | exact Nat.le_refl _ | omega | (simp; done) | (simp; omega)) _))
  · have HQ := Lib.hid (show stopOf ⟨a, b, c, d, e, f, x⟩ = some (onOf ⟨a, b, c, d, 4, f, true⟩) by have h0 := HS.out; simp [stopOf, h0, hw, setD])
    have On := fun w => on_any o ⟨a, b, c, d, 4, f, true⟩ w
    generalize onOf ⟨a, b, c, d, 4, f, true⟩ = z at *
    simp only [sagaV] at On
    clear hw HS
    go_enter Tryz.func127, Tryz.ntmps127
    go_wp2_with (go_at_call 38; go_must ((with_reducible refine (S _).mono ?_); rintro e w1 ⟨rfl, hb⟩; have hT := Two.of hb; have HB1 := Lib.hid (show Below w.heap.size w w1 from Below.trans (((Below.refl _ _).alloc (Nat.le_refl _) _).alloc (by simp) _) (hb.mono (by simp; omega))); have hz1 := hT.lt; obtain ⟨k0, k1, k2, k3, k4, k5, k6, k7, k8, k9, k10, k11⟩ := (hT).cells1; have f1 := (hT).f1; have HT := Lib.hid hT; clear hT hb))
    go_wp2_with (go_at_call 98; go_must ((with_reducible refine (W _).mono ?_); rintro e w2 ⟨rfl, hb⟩; clear k0 k1 k2 k3 k4 k5 k6 k7 k8 k9 k10 k11 f1; have hT := HT.out.below hb; have HB2 := Lib.hid (HB1.out.trans (hb.mono (by omega))); have hz2 := hT.lt; obtain ⟨k0, k1, k2, k3, k4, k5, k6, k7, k8, k9, k10, k11⟩ := (hT).cells1; have f1 := (hT).f1; have HT2 := Lib.hid hT; clear hT hb))
    go_wp2_with (go_at_call 155; go_must ((with_reducible refine (On _).mono ?_); rintro e w3 ⟨rfl, hb⟩; clear k0 k1 k2 k3 k4 k5 k6 k7 k8 k9 k10 k11 f1; have hT := ((HT2.out.set (k := 9) (by simp) (.int .i64 4)).set (k := 11) (by simp) (.bool true)).below hb; have hW2 := Lib.hid (show Below w.heap.size w w3 from ((HB2.out.setCell (Nat.le_refl _) _).setCell (Nat.le_refl _) _).trans (hb.mono (by simp; omega))); have hz3 := hT.lt; obtain ⟨m0, m1, m2, m3, m4, m5, m6, m7, m8, m9, m10, m11⟩ := (hT).cells2; have f2 := (hT).f2; clear hT hb))
    refine bodyPost_ret (v := .tuple #[sagaV o z, .int .i64 0]) (by unfold sagaV; simp [results, Tryz.results127, go_sem, *]) rfl ⟨by rw [HQ.out]; rfl, ?_⟩
    have hW2 := hW2.out
    (with_reducible repeat (first | assumption | refine Below.setCell ?_ (by first | exact Nat.le_refl _ | omega | (simp; done) | (simp; omega)) _))
  · have HQ := Lib.hid (show stopOf ⟨a, b, c, d, e, f, x⟩ = some (onOf ⟨a, b, c, d, e, 4, true⟩) by have h0 := HS.out; simp [stopOf, h0, hw, setD])
    have On := fun w => on_any o ⟨a, b, c, d, e, 4, true⟩ w
    generalize onOf ⟨a, b, c, d, e, 4, true⟩ = z at *
    simp only [sagaV] at On
    clear hw HS
    go_enter Tryz.func127, Tryz.ntmps127
    go_wp2_with (go_at_call 38; go_must ((with_reducible refine (S _).mono ?_); rintro e w1 ⟨rfl, hb⟩; have hT := Two.of hb; have HB1 := Lib.hid (show Below w.heap.size w w1 from Below.trans (((Below.refl _ _).alloc (Nat.le_refl _) _).alloc (by simp) _) (hb.mono (by simp; omega))); have hz1 := hT.lt; obtain ⟨k0, k1, k2, k3, k4, k5, k6, k7, k8, k9, k10, k11⟩ := (hT).cells1; have f1 := (hT).f1; have HT := Lib.hid hT; clear hT hb))
    go_wp2_with (go_at_call 98; go_must ((with_reducible refine (W _).mono ?_); rintro e w2 ⟨rfl, hb⟩; clear k0 k1 k2 k3 k4 k5 k6 k7 k8 k9 k10 k11 f1; have hT := HT.out.below hb; have HB2 := Lib.hid (HB1.out.trans (hb.mono (by omega))); have hz2 := hT.lt; obtain ⟨k0, k1, k2, k3, k4, k5, k6, k7, k8, k9, k10, k11⟩ := (hT).cells1; have f1 := (hT).f1; have HT2 := Lib.hid hT; clear hT hb))
    go_wp2_with (go_at_call 155; go_must ((with_reducible refine (On _).mono ?_); rintro e w3 ⟨rfl, hb⟩; clear k0 k1 k2 k3 k4 k5 k6 k7 k8 k9 k10 k11 f1; have hT := ((HT2.out.set (k := 10) (by simp) (.int .i64 4)).set (k := 11) (by simp) (.bool true)).below hb; have hW2 := Lib.hid (show Below w.heap.size w w3 from ((HB2.out.setCell (Nat.le_refl _) _).setCell (Nat.le_refl _) _).trans (hb.mono (by simp; omega))); have hz3 := hT.lt; obtain ⟨m0, m1, m2, m3, m4, m5, m6, m7, m8, m9, m10, m11⟩ := (hT).cells2; have f2 := (hT).f2; clear hT hb))
    refine bodyPost_ret (v := .tuple #[sagaV o z, .int .i64 0]) (by unfold sagaV; simp [results, Tryz.results127, go_sem, *]) rfl ⟨by rw [HQ.out]; rfl, ?_⟩
    have hW2 := hW2.out
    (with_reducible repeat (first | assumption | refine Below.setCell ?_ (by first | exact Nat.le_refl _ | omega | (simp; done) | (simp; omega)) _))
end Go.Proofs.YtibabfedpdoofaaGreatDoor
namespace Go.Proofs.YtibabfedpdoofaaGreatDoor
open Go.RowKit Go.Own

set_option maxHeartbeats 2000000 in
set_option maxRecDepth 100000 in
theorem sagaNet_any (o : OrdS) (s : D6) (w : World) : Calls Tryz.prog 74 #[sagaV o s] w fun e w' => e = .returned (.int .i64 (netS o s)) ∧ Below w.heap.size w w' := by
  obtain ⟨a, b, c, d, e, f, x⟩ := s
  rw [(show sagaV o ⟨a, b, c, d, e, f, x⟩ = .agg #[.int .i64 o.id, .string ⟨o.ref.toArray⟩, .string ⟨o.sku.toArray⟩, .int .i64 o.qty, .int .i64 o.amt, .int .i64 a, .int .i64 b, .int .i64 c, .int .i64 d, .int .i64 e, .int .i64 f, .bool x] from rfl)]
  by_cases h1 : b = 2
  · by_cases h2 : e = 2
    · have HQ := Lib.hid (show netS o ⟨a, b, c, d, e, f, x⟩ = 0 by simp [netS, h2])
      have h1b : (b != 2) = false := by simpa using h1
      have h2b : (e == 2) = true := by simpa using h2
      clear h1 h2
      go_enter Tryz.func74, Tryz.ntmps74
      go_wp2_with fail
      go_ret
      exact ⟨by rw [HQ.out]; rfl, (by with_reducible (repeat (first | assumption | exact Below.refl _ _ | refine Below.drew ?_ | refine below_drewN ?_ _ | refine Below.alloc ?_ (by first | (simp; done) | omega | (simp; omega)) _ | refine Below.setCell ?_ (by first | (simp; done) | omega | (simp; omega)) _ | refine Below.trans ?_ (Below.mono (by assumption) (by first | (simp; done) | omega | (simp; omega))))))⟩
    · have HQ := Lib.hid (show netS o ⟨a, b, c, d, e, f, x⟩ = o.amt by simp [netS, h1, h2])
      have h1b : (b != 2) = false := by simpa using h1
      have h2b : (e == 2) = false := by simpa using h2
      clear h1 h2
      go_enter Tryz.func74, Tryz.ntmps74
      go_wp2_with fail
      go_ret
      exact ⟨by rw [HQ.out]; rfl, (by with_reducible (repeat (first | assumption | exact Below.refl _ _ | refine Below.drew ?_ | refine below_drewN ?_ _ | refine Below.alloc ?_ (by first | (simp; done) | omega | (simp; omega)) _ | refine Below.setCell ?_ (by first | (simp; done) | omega | (simp; omega)) _ | refine Below.trans ?_ (Below.mono (by assumption) (by first | (simp; done) | omega | (simp; omega))))))⟩
  · have HQ := Lib.hid (show netS o ⟨a, b, c, d, e, f, x⟩ = 0 by simp [netS, h1])
    have h1b : (b != 2) = true := by simpa using h1
    clear h1
    go_enter Tryz.func74, Tryz.ntmps74
    go_wp2_with fail
    go_ret
    exact ⟨by rw [HQ.out]; rfl, (by with_reducible (repeat (first | assumption | exact Below.refl _ _ | refine Below.drew ?_ | refine below_drewN ?_ _ | refine Below.alloc ?_ (by first | (simp; done) | omega | (simp; omega)) _ | refine Below.setCell ?_ (by first | (simp; done) | omega | (simp; omega)) _ | refine Below.trans ?_ (Below.mono (by assumption) (by first | (simp; done) | omega | (simp; omega))))))⟩
end Go.Proofs.YtibabfedpdoofaaGreatDoor
namespace Go.Proofs.YtibabfedpdoofaaGreatDoor
open Go.RowKit Go.Own Go.Maps

def ordE (o : OrdS) : Int := ordCheck o.id o.ref o.sku o.qty o.amt
def placeE (L : List (OrdS × D6)) (o : OrdS) : Int := if ordE o ≠ 0 then ordE o else if hasL L o.ref = true then 91 else if 60 ≤ L.length then 60 else if o.id ≠ (L.length : Int) + 1 then 2 else 0
def placeL (L : List (OrdS × D6)) (o : OrdS) : List (OrdS × D6) := if placeE L o = 0 then L ++ [(o, beginD)] else L

set_option maxHeartbeats 8000000 in
set_option maxRecDepth 100000 in
theorem coPlace_any {W w : World} {M : List Ent} {a : CoA} {S : CoS} {i : InA} {A : InS} (o : OrdS) (HO : Own W w (coPs a S i A ++ M)) (hl : S.L.length ≤ 60) (h1 : o.ref.length ≤ maxLen) (h2 : o.sku.length ≤ maxLen) :
    Calls Tryz.prog 79 #[.pointer (some ⟨a.c, 0, none⟩), ordV o] w fun e w' => e = .returned (.int .i64 (placeE S.L o)) ∧ ∃ v', Own W w' (coPs { a with v := v' } { S with L := placeL S.L o } i A ++ M) := by
  have OC := fun w => ordCheck_any o.id o.ref o.sku o.qty o.amt w h1 h2
  have BG := fun w => begin_any o w
  have hpv := (Own.coAt HO (a := a) (S := S) (i := i) (A := A) (by repeat (first | exact List.mem_cons_self | apply List.mem_cons_of_mem)) (by repeat (first | exact List.mem_cons_self | apply List.mem_cons_of_mem)) (by repeat (first | exact List.mem_cons_self | apply List.mem_cons_of_mem))).row.slice
  obtain ⟨ac, av, ak, au, apm, abm⟩ := a
  obtain ⟨p, c, hv, hmx⟩ := hpv
  simp only at hv
  subst hv
  rw [List.length_map] at HO
  have HE := Lib.hid (show placeE S.L o = if ordE o ≠ 0 then ordE o else if hasL S.L o.ref = true then 91 else if 60 ≤ S.L.length then 60 else if o.id ≠ (S.L.length : Int) + 1 then 2 else 0 from rfl)
  have HP := Lib.hid (show placeL S.L o = if placeE S.L o = 0 then S.L ++ [(o, beginD)] else S.L from rfl)
  change ∀ w, Calls Tryz.prog 125 _ w fun e w' => e = .returned (.int .i64 (ordE o)) ∧ Below w.heap.size w w' at OC
  have HS := fun (w : World) (L : List Ent) (h : Own W w L) h1 h2 h3 => coHas_any (Own.coAt h (a := ⟨ac, .slice p S.L.length c, ak, au, apm, abm⟩) (S := S) (i := i) (A := A) h1 h2 h3) o.ref
  simp only [coC] at HS
  have HS0 := Lib.hid HS
  clear HS h1 h2
  generalize placeL S.L o = Lx at *
  generalize placeE S.L o = ex at *
  generalize ordE o = eo at *
  generalize hasL S.L o.ref = hs at *
  unfold coPs coC at HO
  simp only [List.cons_append, List.nil_append] at HO
  by_cases c1 : eo = 0
  rotate_left
  · rw [if_pos c1] at HE
    obtain rfl := HE.out
    rw [if_neg c1] at HP
    obtain rfl := HP.out
    go_enter Tryz.func79, Tryz.ntmps79
    go_wp2_with (first | go_big_skip | (first | go_big_skip | ((with_reducible apply wpList_loadAll HO); exact rfl; exact rfl; (repeat (with_reducible (first | exact At.head _ | apply At.tail))); infer_instance; exact rfl; exact rfl; (simp only [Act.put, zA, zB, zC])) | ((with_reducible apply wpList_loadOne HO); exact rfl; exact rfl; (repeat (with_reducible (first | exact At.head _ | apply At.tail))); exact rfl; infer_instance; exact rfl; (simp only [Act.put, zA, zB, zC]))) | ((with_reducible apply wpList_storeAll HO); exact rfl; exact rfl; exact rfl; (repeat (with_reducible (first | exact At.head _ | apply At.tail))); infer_instance; exact rfl; exact rfl; exact rfl; exact rfl; clear HO; intro w HO; (simp only [Act.put])) | (first | ((with_reducible apply wpList_boxAgg _ HO rfl); exact rfl; exact rfl; exact rfl; clear HO; intro b1 w HO; (simp only [Act.put, zA, zB, zC])) | ((with_reducible apply wpList_allocAgg _ HO rfl); exact rfl; infer_instance; exact rfl; clear HO; intro b1 w HO; (simp only [Act.put, zA, zB, zC]))) | (go_at_call 125; go_must ((with_reducible refine (OC _).mono ?_); rintro e w ⟨rfl, hb⟩; replace HO := HO.call hb; clear hb)))
    go_ret
    exact ⟨rfl, _, HO.tail⟩
  subst c1
  rw [if_neg (by simp)] at HE
  by_cases c2 : hs = true
  · subst c2
    rw [if_pos rfl] at HE
    obtain rfl := HE.out
    rw [if_neg (by decide)] at HP
    obtain rfl := HP.out
    go_enter Tryz.func79, Tryz.ntmps79
    go_wp2_with (first | go_big_skip | (first | go_big_skip | ((with_reducible apply wpList_loadAll HO); exact rfl; exact rfl; (repeat (with_reducible (first | exact At.head _ | apply At.tail))); infer_instance; exact rfl; exact rfl; (simp only [Act.put, zA, zB, zC])) | ((with_reducible apply wpList_loadOne HO); exact rfl; exact rfl; (repeat (with_reducible (first | exact At.head _ | apply At.tail))); exact rfl; infer_instance; exact rfl; (simp only [Act.put, zA, zB, zC]))) | ((with_reducible apply wpList_storeAll HO); exact rfl; exact rfl; exact rfl; (repeat (with_reducible (first | exact At.head _ | apply At.tail))); infer_instance; exact rfl; exact rfl; exact rfl; exact rfl; clear HO; intro w HO; (simp only [Act.put])) | (first | ((with_reducible apply wpList_boxAgg _ HO rfl); exact rfl; exact rfl; exact rfl; clear HO; intro b1 w HO; (simp only [Act.put, zA, zB, zC])) | ((with_reducible apply wpList_allocAgg _ HO rfl); exact rfl; infer_instance; exact rfl; clear HO; intro b1 w HO; (simp only [Act.put, zA, zB, zC]))) | (go_at_call 125; go_must ((with_reducible refine (OC _).mono ?_); rintro e w ⟨rfl, hb⟩; replace HO := HO.call hb; clear hb)) | (go_at_call 126; go_must ((with_reducible refine (HS0.out _ _ HO (by repeat (first | exact List.mem_cons_self | apply List.mem_cons_of_mem)) (by repeat (first | exact List.mem_cons_self | apply List.mem_cons_of_mem)) (by repeat (first | exact List.mem_cons_self | apply List.mem_cons_of_mem))).mono ?_); rintro e w ⟨rfl, hb⟩; replace HO := HO.call hb; clear hb)))
    go_ret
    exact ⟨rfl, _, HO.tail⟩
  rw [Bool.not_eq_true] at c2
  subst c2
  rw [if_neg (by decide)] at HE
  by_cases c3 : 60 ≤ S.L.length
  · have c3' : ¬ (S.L.length : Int) < 60 := by omega
    rw [if_pos c3] at HE
    obtain rfl := HE.out
    rw [if_neg (by decide)] at HP
    obtain rfl := HP.out
    go_enter Tryz.func79, Tryz.ntmps79
    go_wp2_with (first | go_big_skip | (first | go_big_skip | ((with_reducible apply wpList_loadAll HO); exact rfl; exact rfl; (repeat (with_reducible (first | exact At.head _ | apply At.tail))); infer_instance; exact rfl; exact rfl; (simp only [Act.put, zA, zB, zC])) | ((with_reducible apply wpList_loadOne HO); exact rfl; exact rfl; (repeat (with_reducible (first | exact At.head _ | apply At.tail))); exact rfl; infer_instance; exact rfl; (simp only [Act.put, zA, zB, zC]))) | ((with_reducible apply wpList_storeAll HO); exact rfl; exact rfl; exact rfl; (repeat (with_reducible (first | exact At.head _ | apply At.tail))); infer_instance; exact rfl; exact rfl; exact rfl; exact rfl; clear HO; intro w HO; (simp only [Act.put])) | (first | ((with_reducible apply wpList_boxAgg _ HO rfl); exact rfl; exact rfl; exact rfl; clear HO; intro b1 w HO; (simp only [Act.put, zA, zB, zC])) | ((with_reducible apply wpList_allocAgg _ HO rfl); exact rfl; infer_instance; exact rfl; clear HO; intro b1 w HO; (simp only [Act.put, zA, zB, zC]))) | (go_at_call 125; go_must ((with_reducible refine (OC _).mono ?_); rintro e w ⟨rfl, hb⟩; replace HO := HO.call hb; clear hb)) | (go_at_call 126; go_must ((with_reducible refine (HS0.out _ _ HO (by repeat (first | exact List.mem_cons_self | apply List.mem_cons_of_mem)) (by repeat (first | exact List.mem_cons_self | apply List.mem_cons_of_mem)) (by repeat (first | exact List.mem_cons_self | apply List.mem_cons_of_mem))).mono ?_); rintro e w ⟨rfl, hb⟩; replace HO := HO.call hb; clear hb)))
    go_ret
    exact ⟨rfl, _, HO.tail⟩
  have c3' : (S.L.length : Int) < 60 := by omega
  rw [if_neg c3] at HE
  by_cases c4 : o.id = (S.L.length : Int) + 1
  rotate_left
  · rw [if_pos c4] at HE
    obtain rfl := HE.out
    rw [if_neg (by decide)] at HP
    obtain rfl := HP.out
    go_enter Tryz.func79, Tryz.ntmps79
    go_upto_region 8 with (first | go_big_skip | (first | go_big_skip | ((with_reducible apply wpList_loadAll HO); exact rfl; exact rfl; (repeat (with_reducible (first | exact At.head _ | apply At.tail))); infer_instance; exact rfl; exact rfl; (simp only [Act.put, zA, zB, zC])) | ((with_reducible apply wpList_loadOne HO); exact rfl; exact rfl; (repeat (with_reducible (first | exact At.head _ | apply At.tail))); exact rfl; infer_instance; exact rfl; (simp only [Act.put, zA, zB, zC]))) | ((with_reducible apply wpList_storeAll HO); exact rfl; exact rfl; exact rfl; (repeat (with_reducible (first | exact At.head _ | apply At.tail))); infer_instance; exact rfl; exact rfl; exact rfl; exact rfl; clear HO; intro w HO; (simp only [Act.put])) | (first | ((with_reducible apply wpList_boxAgg _ HO rfl); exact rfl; exact rfl; exact rfl; clear HO; intro b1 w HO; (simp only [Act.put, zA, zB, zC])) | ((with_reducible apply wpList_allocAgg _ HO rfl); exact rfl; infer_instance; exact rfl; clear HO; intro b1 w HO; (simp only [Act.put, zA, zB, zC]))) | (go_at_call 125; go_must ((with_reducible refine (OC _).mono ?_); rintro e w ⟨rfl, hb⟩; replace HO := HO.call hb; clear hb)) | (go_at_call 126; go_must ((with_reducible refine (HS0.out _ _ HO (by repeat (first | exact List.mem_cons_self | apply List.mem_cons_of_mem)) (by repeat (first | exact List.mem_cons_self | apply List.mem_cons_of_mem)) (by repeat (first | exact List.mem_cons_self | apply List.mem_cons_of_mem))).mono ?_); rintro e w ⟨rfl, hb⟩; replace HO := HO.call hb; clear hb)))
    refine region_own HO (by kernel_rfl) (by kernel_rfl) ?_
    clear HO
    intro F HF
    repeat (first | (first | go_big_quiet_skip | ((with_reducible apply wpQuiet_loadAll HF); exact rfl; exact rfl; (repeat (with_reducible (first | exact At.head _ | apply At.tail))); infer_instance; exact rfl; exact rfl; (simp only [Act.put, zA, zB, zC])) | ((with_reducible apply wpQuiet_loadOne HF); exact rfl; exact rfl; (repeat (with_reducible (first | exact At.head _ | apply At.tail))); exact rfl; infer_instance; exact rfl; (simp only [Act.put, zA, zB, zC])) | ((with_reducible apply wpQuiet_loadPart HF); exact rfl; exact rfl; (repeat (with_reducible (first | exact At.head _ | apply At.tail))); infer_instance; exact (Nat.le_of_ble_eq_true rfl); (simp only [List.drop_succ_cons, List.drop_zero, List.take_succ_cons, List.take_zero]; rfl); exact rfl; (simp only [Act.put, zA, zB, zC]))) | go_big_quiet_step (fail))
    refine wpQuiet_nil ?_
    intro x
    have HO := HF.own x
    clear HF
    generalize F x = w at *
    clear x F
    go_wp2_with fail
    go_ret
    exact ⟨rfl, _, HO.tail⟩
  rw [if_neg (by simp [c4])] at HE
  obtain rfl := HE.out
  rw [if_pos rfl] at HP
  obtain rfl := HP.out
  clear HE HP
  obtain ⟨oid, oref, osku, oq, oa⟩ := o
  simp only at c4 OC HO HS0
  simp only [ordV, sagaV] at BG
  subst c4
  go_enter Tryz.func79, Tryz.ntmps79
  go_upto_region 8 with (first | go_big_skip | (first | go_big_skip | ((with_reducible apply wpList_loadAll HO); exact rfl; exact rfl; (repeat (with_reducible (first | exact At.head _ | apply At.tail))); infer_instance; exact rfl; exact rfl; (simp only [Act.put, zA, zB, zC])) | ((with_reducible apply wpList_loadOne HO); exact rfl; exact rfl; (repeat (with_reducible (first | exact At.head _ | apply At.tail))); exact rfl; infer_instance; exact rfl; (simp only [Act.put, zA, zB, zC]))) | ((with_reducible apply wpList_storeAll HO); exact rfl; exact rfl; exact rfl; (repeat (with_reducible (first | exact At.head _ | apply At.tail))); infer_instance; exact rfl; exact rfl; exact rfl; exact rfl; clear HO; intro w HO; (simp only [Act.put])) | (first | ((with_reducible apply wpList_boxAgg _ HO rfl); exact rfl; exact rfl; exact rfl; clear HO; intro b1 w HO; (simp only [Act.put, zA, zB, zC])) | ((with_reducible apply wpList_allocAgg _ HO rfl); exact rfl; infer_instance; exact rfl; clear HO; intro b1 w HO; (simp only [Act.put, zA, zB, zC]))) | (go_at_call 125; go_must ((with_reducible refine (OC _).mono ?_); rintro e w ⟨rfl, hb⟩; replace HO := HO.call hb; clear hb)) | (go_at_call 126; go_must ((with_reducible refine (HS0.out _ _ HO (by repeat (first | exact List.mem_cons_self | apply List.mem_cons_of_mem)) (by repeat (first | exact List.mem_cons_self | apply List.mem_cons_of_mem)) (by repeat (first | exact List.mem_cons_self | apply List.mem_cons_of_mem))).mono ?_); rintro e w ⟨rfl, hb⟩; replace HO := HO.call hb; clear hb)))
  refine region_own HO (by kernel_rfl) (by kernel_rfl) ?_
  clear HO
  intro F HF
  repeat (first | (first | go_big_quiet_skip | ((with_reducible apply wpQuiet_loadAll HF); exact rfl; exact rfl; (repeat (with_reducible (first | exact At.head _ | apply At.tail))); infer_instance; exact rfl; exact rfl; (simp only [Act.put, zA, zB, zC])) | ((with_reducible apply wpQuiet_loadOne HF); exact rfl; exact rfl; (repeat (with_reducible (first | exact At.head _ | apply At.tail))); exact rfl; infer_instance; exact rfl; (simp only [Act.put, zA, zB, zC])) | ((with_reducible apply wpQuiet_loadPart HF); exact rfl; exact rfl; (repeat (with_reducible (first | exact At.head _ | apply At.tail))); infer_instance; exact (Nat.le_of_ble_eq_true rfl); (simp only [List.drop_succ_cons, List.drop_zero, List.take_succ_cons, List.take_zero]; rfl); exact rfl; (simp only [Act.put, zA, zB, zC]))) | go_big_quiet_step (fail))
  refine wpQuiet_nil ?_
  intro x
  have HO := HF.own x
  clear HF
  generalize F x = w at *
  clear x F
  go_upto_region 10 with fail
  refine region_sched2 ([box b1 (.cells #[.int .i64 ((S.L.length : Int) + 1), .string ⟨oref.toArray⟩, .string ⟨osku.toArray⟩, .int .i64 oq, .int .i64 oa] 27), box ac (.cells #[.slice p S.L.length c, .pointer (some ⟨ak, 0, none⟩), .int .i64 A.p0, .int .i64 A.q0, i.v0, .int .i64 A.p1, .int .i64 A.q1, i.v1, .int .i64 A.p2, .int .i64 A.q2, i.v2, i.m] 143)]) [(0, true), (1, true), (2, true), (3, true), (4, true), (5, true), (6, false), (7, false), (8, false), (9, true), (10, true), (11, false)] HO (by with_reducible (repeat (first | exact List.nil_sublist _ | apply List.Sublist.cons_cons | apply List.Sublist.cons))) (by kernel_rfl) (by kernel_rfl) ?_
  clear HO
  intro w HO
  repeat (first | ((with_reducible apply wpSched_loadOne); exact rfl; exact rfl; exact rfl; (repeat (with_reducible (first | exact At.head _ | apply At.tail))); exact rfl; infer_instance; exact rfl; (simp only [Act.put, zA, zB, zC])) | ((with_reducible apply wpSched_loadAll); exact rfl; exact rfl; exact rfl; (repeat (with_reducible (first | exact At.head _ | apply At.tail))); infer_instance; exact rfl; exact rfl; (simp only [Act.put, zA, zB, zC])) | ((with_reducible apply wpSched_pure); exact rfl; exact rfl; (intro w'; go_simp; try with_reducible rfl); (simp only [Act.put, zA, zB, zC])))
  ((with_reducible apply wpSched_loud); exact rfl; go_wp2_with ((go_at_call 120; go_must ((with_reducible refine (BG _).mono ?_); rintro e w ⟨rfl, hb⟩; replace HO := HO.call hb; clear hb))))
  refine thenQ_keep (HO.held (by with_reducible (repeat (first | exact List.nil_sublist _ | apply List.Sublist.cons_cons | apply List.Sublist.cons)))) ?_
  ((with_reducible apply wpSched_loud); exact rfl; (first | ((with_reducible apply wpList_lit1 HO); exact rfl; infer_instance; infer_instance; exact rfl; exact rfl; exact (by decide); exact rfl; clear HO; intro bl w HO; (simp only [Act.put, zA, zB, zC])) | ((with_reducible apply wpList_lit1c HO); exact rfl; infer_instance; infer_instance; (first | (simp [Act.eval]; rfl) | exact rfl); exact rfl; exact rfl; clear HO; intro bl w HO; (simp only [Act.put, zA, zB, zC]))))
  refine wpList_nil (thenQ_keep (HO.held (by with_reducible (repeat (first | exact List.nil_sublist _ | apply List.Sublist.cons_cons | apply List.Sublist.cons)))) ?_)
  ((with_reducible apply wpSched_loud); exact rfl; ((with_reducible apply wpList_push1 HO); exact rfl; infer_instance; infer_instance; (first | (simp [Act.eval]; rfl) | exact rfl); exact rfl; intro _; (repeat (with_reducible (first | exact At.head _ | apply At.tail))); exact rfl; exact rfl; (first | omega | (simp; omega)); decide; exact rfl; clear HO; intro v2 w HO hv2; (simp only [Act.put, zA, zB, zC])))
  obtain ⟨p9, n9, c9, rfl⟩ := hv2
  refine wpList_nil (thenQ_free (by kernel_rfl) ?_)
  repeat ((with_reducible apply wpSched_pure); exact rfl; exact rfl; (intro w'; go_simp; try with_reducible rfl); (simp only [Act.put, zA, zB, zC]))
  ((with_reducible apply wpSched_loud); exact rfl; ((with_reducible apply wpList_storeOne HO); exact rfl; exact rfl; (first | (simp [Act.eval]; rfl) | exact rfl); exact rfl; (repeat (with_reducible (first | exact At.head _ | apply At.tail))); infer_instance; exact (by simp); (simp only [List.set_cons_zero]; rfl); exact rfl; clear HO; intro w HO; (simp only [Act.put])))
  refine wpList_nil (thenQ_free (by kernel_rfl) ?_)
  refine wpSched_end ?_
  go_wp2_with fail
  go_ret
  have h1 := (HO.sub (.cons _ (List.Sublist.refl _)))
  refine ⟨rfl, .slice p9 n9 c9, ?_⟩
  unfold coPs coC
  rw [List.map_append]
  exact h1
end Go.Proofs.YtibabfedpdoofaaGreatDoor
namespace Go.Proofs.YtibabfedpdoofaaGreatDoor
open Go.RowKit Go.Own Go.Maps

/-- A saga in its place. -/
def sagAt (L : List (OrdS × D6)) (id : Int) (x : OrdS × D6) : List (OrdS × D6) := L.set (id - 1).toNat x
def stopE (L : List (OrdS × D6)) (id : Int) : Int := match ordAt L id with
  | none => 4
  | some x => match stopOf x.2 with
    | none => 92
    | some _ => 0
def stopL (L : List (OrdS × D6)) (id : Int) : List (OrdS × D6) := match ordAt L id with
  | none => L
  | some x => match stopOf x.2 with
    | none => L
    | some t => sagAt L id (x.1, t)
theorem ordAt_some {L : List (OrdS × D6)} {id : Int} {x : OrdS × D6} (h : ordAt L id = some x) : ∃ j : Nat, ∃ hj : j < L.length, id = (j : Int) + 1 ∧ x = L[j] := by
  unfold ordAt at h
  split at h
  · obtain ⟨h1, h2⟩ := List.getElem?_eq_some_iff.1 h
    exact ⟨_, h1, by omega, h2.symm⟩
  · cases h

set_option maxHeartbeats 8000000 in
set_option maxRecDepth 100000 in
theorem coStop_any {W w : World} {M : List Ent} {a : CoA} {S : CoS} {i : InA} {A : InS} (id : Int) (HO : Own W w (coPs a S i A ++ M)) (hid : inI id = true) :
    Calls Tryz.prog 80 #[.pointer (some ⟨a.c, 0, none⟩), .int .i64 id] w fun e w' => e = .returned (.int .i64 (stopE S.L id)) ∧ Own W w' (coPs a { S with L := stopL S.L id } i A ++ M) := by
  have OR := fun (w : World) (L : List Ent) (h : Own W w L) h1 h2 h3 => coOrder_any (Own.coAt h (a := a) (S := S) (i := i) (A := A) h1 h2 h3) hid
  have hpv := (Own.coAt HO (a := a) (S := S) (i := i) (A := A) (by repeat (first | exact List.mem_cons_self | apply List.mem_cons_of_mem)) (by repeat (first | exact List.mem_cons_self | apply List.mem_cons_of_mem)) (by repeat (first | exact List.mem_cons_self | apply List.mem_cons_of_mem))).row.slice
  obtain ⟨ac, av, ak, au, apm, abm⟩ := a
  obtain ⟨p, c, hv, hmx⟩ := hpv
  simp only at hv
  subst hv
  rw [List.length_map] at HO
  rw [List.length_map] at OR
  simp only [coC] at OR
  unfold coPs coC at HO
  simp only [List.cons_append, List.nil_append] at HO
  rcases hx : ordAt S.L id with _ | x
  · rw [hx] at OR
    rw [show stopE S.L id = 4 by unfold stopE; rw [hx], show stopL S.L id = S.L by unfold stopL; rw [hx]]
    simp only [ordR] at OR
    have OR0 := Lib.hid OR
    clear OR
    go_enter Tryz.func80, Tryz.ntmps80
    go_wp2_with (first | go_big_skip | (first | go_big_skip | ((with_reducible apply wpList_loadAll HO); exact rfl; exact rfl; (repeat (with_reducible (first | exact At.head _ | apply At.tail))); infer_instance; exact rfl; exact rfl; (simp only [Act.put, zA, zB, zC])) | ((with_reducible apply wpList_loadOne HO); exact rfl; exact rfl; (repeat (with_reducible (first | exact At.head _ | apply At.tail))); exact rfl; infer_instance; exact rfl; (simp only [Act.put, zA, zB, zC]))) | ((with_reducible apply wpList_storeAll HO); exact rfl; exact rfl; exact rfl; (repeat (with_reducible (first | exact At.head _ | apply At.tail))); infer_instance; exact rfl; exact rfl; exact rfl; exact rfl; clear HO; intro w HO; (simp only [Act.put])) | (first | ((with_reducible apply wpList_boxAgg _ HO rfl); exact rfl; exact rfl; exact rfl; clear HO; intro b1 w HO; (simp only [Act.put, zA, zB, zC])) | ((with_reducible apply wpList_allocAgg _ HO rfl); exact rfl; infer_instance; exact rfl; clear HO; intro b1 w HO; (simp only [Act.put, zA, zB, zC]))) | (go_at_call 36; go_must ((with_reducible refine (OR0.out _ _ HO (by repeat (first | exact List.mem_cons_self | apply List.mem_cons_of_mem)) (by repeat (first | exact List.mem_cons_self | apply List.mem_cons_of_mem)) (by repeat (first | exact List.mem_cons_self | apply List.mem_cons_of_mem))).mono ?_); rintro e w ⟨rfl, hb⟩; replace HO := HO.call hb; clear hb)))
    go_ret
    refine ⟨rfl, ?_⟩
    unfold coPs coC
    rw [List.length_map]
    exact HO.tail
  · obtain ⟨j, hj, hid2, rfl⟩ := ordAt_some hx
    have hi := inI_iff.1 hid
    have hjI : (j : Int) < (S.L.length : Int) := by omega
    have e1 : IntKind.i64.wrap (id - 1) = (j : Int) := by rw [wrap_in (inI_iff.2 (by omega))]; omega
    have e2 : (id - 1).toNat = j := by omega
    have hset := Lib.hid (fun y => show (S.L.set j y).map sagaL = (S.L.map sagaL).set j (sagaL y) from List.map_set ..)
    have hjm := Lib.hid (show j < (S.L.map sagaL).length by simpa using hj)
    obtain ⟨q, hq⟩ : ∃ q, p = some q := by
      rcases p with _ | q
      · have := (Own.coAt HO (a := ⟨ac, .slice none S.L.length c, ak, au, apm, abm⟩) (S := S) (i := i) (A := A) (by repeat (first | exact List.mem_cons_self | apply List.mem_cons_of_mem)) (by repeat (first | exact List.mem_cons_self | apply List.mem_cons_of_mem)) (by repeat (first | exact List.mem_cons_self | apply List.mem_cons_of_mem))).row.at (by simp; omega)
        obtain ⟨_, _, h, _⟩ := this
        cases h
      · exact ⟨q, rfl⟩
    subst hq
    have hsl := Lib.hid (sagaL_len S.L)
    rw [hx] at OR
    rw [List.length_map]
    rw [show stopE S.L id = (match stopOf S.L[j].2 with | none => 92 | some _ => 0) by unfold stopE; rw [hx], show stopL S.L id = (match stopOf S.L[j].2 with | none => S.L | some t => S.L.set j (S.L[j].1, t)) by unfold stopL; rw [hx]; simp only [sagAt, e2]]
    generalize hy : S.L[j] = y at *
    obtain ⟨o, s⟩ := y
    have ST := fun w => stop_any o s w
    simp only [ordR, sagaV] at OR
    have OR0 := Lib.hid OR
    clear OR hx hid2 e2 hi
    rcases hst : stopOf s with _ | t
    · rw [hst] at ST
      simp only [stopV, noneV, sagaV] at ST
      go_enter Tryz.func80, Tryz.ntmps80
      go_wp2_with (first | go_big_skip | (first | go_big_skip | ((with_reducible apply wpList_loadAll HO); exact rfl; exact rfl; (repeat (with_reducible (first | exact At.head _ | apply At.tail))); infer_instance; exact rfl; exact rfl; (simp only [Act.put, zA, zB, zC])) | ((with_reducible apply wpList_loadOne HO); exact rfl; exact rfl; (repeat (with_reducible (first | exact At.head _ | apply At.tail))); exact rfl; infer_instance; exact rfl; (simp only [Act.put, zA, zB, zC]))) | ((with_reducible apply wpList_storeAll HO); exact rfl; exact rfl; exact rfl; (repeat (with_reducible (first | exact At.head _ | apply At.tail))); infer_instance; exact rfl; exact rfl; exact rfl; exact rfl; clear HO; intro w HO; (simp only [Act.put])) | (first | ((with_reducible apply wpList_boxAgg _ HO rfl); exact rfl; exact rfl; exact rfl; clear HO; intro b1 w HO; (simp only [Act.put, zA, zB, zC])) | ((with_reducible apply wpList_allocAgg _ HO rfl); exact rfl; infer_instance; exact rfl; clear HO; intro b1 w HO; (simp only [Act.put, zA, zB, zC]))) | (go_at_call 36; go_must ((with_reducible refine (OR0.out _ _ HO (by repeat (first | exact List.mem_cons_self | apply List.mem_cons_of_mem)) (by repeat (first | exact List.mem_cons_self | apply List.mem_cons_of_mem)) (by repeat (first | exact List.mem_cons_self | apply List.mem_cons_of_mem))).mono ?_); rintro e w ⟨rfl, hb⟩; replace HO := HO.call hb; clear hb)) | (go_at_call 127; go_must ((with_reducible refine (ST _).mono ?_); rintro e w ⟨rfl, hb⟩; replace HO := HO.call hb; clear hb)))
      go_ret
      exact ⟨rfl, HO.tail⟩
    · rw [hst] at ST
      simp only [stopV, sagaV] at ST
      go_enter Tryz.func80, Tryz.ntmps80
      go_upto_region 6 with (first | go_big_skip | (first | go_big_skip | ((with_reducible apply wpList_loadAll HO); exact rfl; exact rfl; (repeat (with_reducible (first | exact At.head _ | apply At.tail))); infer_instance; exact rfl; exact rfl; (simp only [Act.put, zA, zB, zC])) | ((with_reducible apply wpList_loadOne HO); exact rfl; exact rfl; (repeat (with_reducible (first | exact At.head _ | apply At.tail))); exact rfl; infer_instance; exact rfl; (simp only [Act.put, zA, zB, zC]))) | ((with_reducible apply wpList_storeAll HO); exact rfl; exact rfl; exact rfl; (repeat (with_reducible (first | exact At.head _ | apply At.tail))); infer_instance; exact rfl; exact rfl; exact rfl; exact rfl; clear HO; intro w HO; (simp only [Act.put])) | (first | ((with_reducible apply wpList_boxAgg _ HO rfl); exact rfl; exact rfl; exact rfl; clear HO; intro b1 w HO; (simp only [Act.put, zA, zB, zC])) | ((with_reducible apply wpList_allocAgg _ HO rfl); exact rfl; infer_instance; exact rfl; clear HO; intro b1 w HO; (simp only [Act.put, zA, zB, zC]))) | (go_at_call 36; go_must ((with_reducible refine (OR0.out _ _ HO (by repeat (first | exact List.mem_cons_self | apply List.mem_cons_of_mem)) (by repeat (first | exact List.mem_cons_self | apply List.mem_cons_of_mem)) (by repeat (first | exact List.mem_cons_self | apply List.mem_cons_of_mem))).mono ?_); rintro e w ⟨rfl, hb⟩; replace HO := HO.call hb; clear hb)) | (go_at_call 127; go_must ((with_reducible refine (ST _).mono ?_); rintro e w ⟨rfl, hb⟩; replace HO := HO.call hb; clear hb)))
      refine region_sched2 ([box b1 (.cells #[.int .i64 o.id, .string ⟨o.ref.toArray⟩, .string ⟨o.sku.toArray⟩, .int .i64 o.qty, .int .i64 o.amt, .int .i64 t.a, .int .i64 t.b, .int .i64 t.c, .int .i64 t.d, .int .i64 t.e, .int .i64 t.f, .bool t.x] 72), box ac (.cells #[.slice (some q) S.L.length c, .pointer (some ⟨ak, 0, none⟩), .int .i64 A.p0, .int .i64 A.q0, i.v0, .int .i64 A.p1, .int .i64 A.q1, i.v1, .int .i64 A.p2, .int .i64 A.q2, i.v2, i.m] 143)]) [(0, true), (1, true), (2, true), (3, true), (4, true), (5, true), (6, true), (7, true), (8, false)] HO (by with_reducible (repeat (first | exact List.nil_sublist _ | apply List.Sublist.cons_cons | apply List.Sublist.cons))) (by kernel_rfl) (by kernel_rfl) ?_
      clear HO
      intro w HO
      repeat (first | ((with_reducible apply wpSched_loadOne); exact rfl; exact rfl; exact rfl; (repeat (with_reducible (first | exact At.head _ | apply At.tail))); exact rfl; infer_instance; exact rfl; (simp only [Act.put, zA, zB, zC])) | ((with_reducible apply wpSched_loadAll); exact rfl; exact rfl; exact rfl; (repeat (with_reducible (first | exact At.head _ | apply At.tail))); infer_instance; exact rfl; exact rfl; (simp only [Act.put, zA, zB, zC])) | ((with_reducible apply wpSched_pure); exact rfl; exact rfl; (intro w'; go_simp; try with_reducible rfl); (simp only [Act.put, zA, zB, zC])))
      ((with_reducible apply wpSched_loud); exact rfl; ((with_reducible apply wpList_storeRow HO); exact rfl; exact rfl; (first | (simp [Act.eval]; rfl) | exact rfl); exact rfl; (repeat (with_reducible (first | exact At.head _ | apply At.tail))); exact (hsl.out); (simp; omega); exact rfl; infer_instance; exact rfl; exact rfl; clear HO; intro w HO; (simp only [Act.put])))
      refine wpList_nil (thenQ_free (by kernel_rfl) ?_)
      refine wpSched_end ?_
      go_wp2_with fail
      go_ret
      refine ⟨rfl, ?_⟩
      unfold coPs coC
      rw [hset.out]
      exact HO.tail
end Go.Proofs.YtibabfedpdoofaaGreatDoor
namespace Go.Proofs
open Go.Shelf
def Tryz.laysM171_ren : Go.Shelf.Ren := ⟨fun | 171 => 109 | 243 => 141 | 246 => 166 | 283 => 178 | 284 => 179 | 285 => 180 | 286 => 181 | 129 => 191 | 317 => 190 | 318 => 192 | 319 => 193 | 320 => 194 | 337 => 204 | 338 => 205 | n => n, fun | 3 => 3 | 9 => 9 | 2 => 2 | 4 => 4 | 171 => 246 | 0 => 0 | 53 => 226 | 37 => 23 | 5 => 5 | 173 => 249 | 212 => 262 | 51 => 263 | 20 => 20 | 213 => 264 | 46 => 265 | 232 => 284 | 233 => 285 | n => n, fun | 17 => 1 | 18 => 3 | 19 => 4 | n => n⟩
theorem Tryz.laysM171 : Go.Proofs.LaysM.n171 Tryz.prog Tryz.laysM171_ren := {
  mixed := by kernel_rfl
  f129 := Tryz.func191.trans (congrArg some (by kernel_rfl))
  f171 := Tryz.func109.trans (congrArg some (by kernel_rfl))
  f243 := Tryz.func141.trans (congrArg some (by kernel_rfl))
  f246 := Tryz.func166.trans (congrArg some (by kernel_rfl))
  f283 := Tryz.func178.trans (congrArg some (by kernel_rfl))
  f284 := Tryz.func179.trans (congrArg some (by kernel_rfl))
  f285 := Tryz.func180.trans (congrArg some (by kernel_rfl))
  f286 := Tryz.func181.trans (congrArg some (by kernel_rfl))
  f317 := Tryz.func190.trans (congrArg some (by kernel_rfl))
  f318 := Tryz.func192.trans (congrArg some (by kernel_rfl))
  f319 := Tryz.func193.trans (congrArg some (by kernel_rfl))
  f320 := Tryz.func194.trans (congrArg some (by kernel_rfl))
  f337 := Tryz.func204.trans (congrArg some (by kernel_rfl))
  f338 := Tryz.func205.trans (congrArg some (by kernel_rfl))
  t0 := Tryz.underlying0
  a0 := Tryz.isAgg0
  z0 := Tryz.sizeOf0
  v0 := Tryz.zeroValue0
  t2 := Tryz.underlying2
  a2 := Tryz.isAgg2
  z2 := Tryz.sizeOf2
  v2 := Tryz.zeroValue2
  t3 := Tryz.underlying3
  a3 := Tryz.isAgg3
  z3 := Tryz.sizeOf3
  v3 := Tryz.zeroValue3
  t4 := Tryz.underlying4
  a4 := Tryz.isAgg4
  z4 := Tryz.sizeOf4
  v4 := Tryz.zeroValue4
  t5 := Tryz.underlying5
  a5 := Tryz.isAgg5
  z5 := Tryz.sizeOf5
  v5 := Tryz.zeroValue5
  t9 := Tryz.underlying9
  a9 := Tryz.isAgg9
  z9 := Tryz.sizeOf9
  v9 := Tryz.zeroValue9
  t20 := Tryz.underlying20
  a20 := Tryz.isAgg20
  z20 := Tryz.sizeOf20
  v20 := Tryz.zeroValue20
  t37 := Tryz.underlying23
  a37 := Tryz.isAgg23
  z37 := Tryz.sizeOf23
  v37 := Tryz.zeroValue23
  t46 := Tryz.underlying265
  a46 := Tryz.isAgg265
  z46 := Tryz.sizeOf265
  v46 := Tryz.zeroValue265
  t51 := Tryz.underlying263
  a51 := Tryz.isAgg263
  z51 := Tryz.sizeOf263
  v51 := Tryz.zeroValue263
  t53 := Tryz.underlying226
  a53 := Tryz.isAgg226
  z53 := Tryz.sizeOf226
  v53 := Tryz.zeroValue226
  t171 := Tryz.underlying246
  a171 := Tryz.isAgg246
  z171 := Tryz.sizeOf246
  v171 := Tryz.zeroValue246
  t173 := Tryz.underlying249
  a173 := Tryz.isAgg249
  z173 := Tryz.sizeOf249
  v173 := Tryz.zeroValue249
  t212 := Tryz.underlying262
  a212 := Tryz.isAgg262
  z212 := Tryz.sizeOf262
  v212 := Tryz.zeroValue262
  t213 := Tryz.underlying264
  a213 := Tryz.isAgg264
  z213 := Tryz.sizeOf264
  t232 := Tryz.underlying284
  a232 := Tryz.isAgg284
  z232 := Tryz.sizeOf284
  v232 := Tryz.zeroValue284
  t233 := Tryz.underlying285
  a233 := Tryz.isAgg285
  z233 := Tryz.sizeOf285
  v233 := Tryz.zeroValue285
  g17 := by kernel_rfl
  g18 := by kernel_rfl
  g19 := by kernel_rfl
  i0 := by kernel_rfl
  i2 := by kernel_rfl
  i3 := by kernel_rfl
  i4 := by kernel_rfl
  i5 := by kernel_rfl
  i9 := by kernel_rfl
  i20 := by kernel_rfl
  i37 := by kernel_rfl
  i46 := by kernel_rfl
  i51 := by kernel_rfl
  i53 := by kernel_rfl
  i171 := by kernel_rfl
  i173 := by kernel_rfl
  i212 := by kernel_rfl
  i232 := by kernel_rfl
  i233 := by kernel_rfl
  m17 := by kernel_rfl
  m18 := by kernel_rfl
  m19 := by kernel_rfl }
open Go.RowKit Go.Sort Go.Lib in
/-- strconv.Itoa: "Itoa is equivalent to FormatInt(int64(i), 10).": i's DECIMAL NUMERAL ('Lib.itoa': a '-' where i is negative, then the digits), FOR EVERY int. The world behind the call: the world before it, new blocks behind the heap (the library's 'var a [24]byte'), draws. (LAID: no walk: one application.) -/
theorem Tryz.strconv_Itoa (n : Int) (h0 : -9223372036854775808 ≤ n) (h1 : n ≤ 9223372036854775807) (w : World) (htab : Lib.TabIs Tryz.prog w "internal/strconv.uint64pow10" .u64 Lib.pow10Tab) :
    Calls Tryz.prog 109 #[.int .i64 n] w fun e w' => e = .returned (.string ⟨(Lib.itoa n).toArray⟩) ∧ ∃ k os, w' = grow (w.drewN k) os := Any.strconv_Itoa Tryz.laysM171 n h0 h1 w htab
def Tryz.laysM173_ren : Go.Shelf.Ren := ⟨fun | 173 => 174 | 246 => 166 | 283 => 178 | 284 => 179 | 285 => 180 | 286 => 181 | 129 => 191 | 317 => 190 | 318 => 192 | 319 => 193 | 320 => 194 | 337 => 204 | 338 => 205 | n => n, fun | 2 => 2 | 3 => 3 | 9 => 9 | 4 => 4 | 171 => 246 | 0 => 0 | 53 => 226 | 37 => 23 | 5 => 5 | 173 => 249 | 212 => 262 | 51 => 263 | 20 => 20 | 213 => 264 | 46 => 265 | 232 => 284 | 233 => 285 | n => n, fun | 17 => 1 | 18 => 3 | 19 => 4 | n => n⟩
theorem Tryz.laysM173 : Go.Proofs.LaysM.n173 Tryz.prog Tryz.laysM173_ren := {
  mixed := by kernel_rfl
  f129 := Tryz.func191.trans (congrArg some (by kernel_rfl))
  f173 := Tryz.func174.trans (congrArg some (by kernel_rfl))
  f246 := Tryz.func166.trans (congrArg some (by kernel_rfl))
  f283 := Tryz.func178.trans (congrArg some (by kernel_rfl))
  f284 := Tryz.func179.trans (congrArg some (by kernel_rfl))
  f285 := Tryz.func180.trans (congrArg some (by kernel_rfl))
  f286 := Tryz.func181.trans (congrArg some (by kernel_rfl))
  f317 := Tryz.func190.trans (congrArg some (by kernel_rfl))
  f318 := Tryz.func192.trans (congrArg some (by kernel_rfl))
  f319 := Tryz.func193.trans (congrArg some (by kernel_rfl))
  f320 := Tryz.func194.trans (congrArg some (by kernel_rfl))
  f337 := Tryz.func204.trans (congrArg some (by kernel_rfl))
  f338 := Tryz.func205.trans (congrArg some (by kernel_rfl))
  t0 := Tryz.underlying0
  a0 := Tryz.isAgg0
  z0 := Tryz.sizeOf0
  v0 := Tryz.zeroValue0
  t2 := Tryz.underlying2
  a2 := Tryz.isAgg2
  z2 := Tryz.sizeOf2
  v2 := Tryz.zeroValue2
  t3 := Tryz.underlying3
  a3 := Tryz.isAgg3
  z3 := Tryz.sizeOf3
  v3 := Tryz.zeroValue3
  t4 := Tryz.underlying4
  a4 := Tryz.isAgg4
  z4 := Tryz.sizeOf4
  v4 := Tryz.zeroValue4
  t5 := Tryz.underlying5
  a5 := Tryz.isAgg5
  z5 := Tryz.sizeOf5
  v5 := Tryz.zeroValue5
  t9 := Tryz.underlying9
  a9 := Tryz.isAgg9
  z9 := Tryz.sizeOf9
  v9 := Tryz.zeroValue9
  t20 := Tryz.underlying20
  a20 := Tryz.isAgg20
  z20 := Tryz.sizeOf20
  v20 := Tryz.zeroValue20
  t37 := Tryz.underlying23
  a37 := Tryz.isAgg23
  z37 := Tryz.sizeOf23
  v37 := Tryz.zeroValue23
  t46 := Tryz.underlying265
  a46 := Tryz.isAgg265
  z46 := Tryz.sizeOf265
  v46 := Tryz.zeroValue265
  t51 := Tryz.underlying263
  a51 := Tryz.isAgg263
  z51 := Tryz.sizeOf263
  v51 := Tryz.zeroValue263
  t53 := Tryz.underlying226
  a53 := Tryz.isAgg226
  z53 := Tryz.sizeOf226
  v53 := Tryz.zeroValue226
  t171 := Tryz.underlying246
  a171 := Tryz.isAgg246
  z171 := Tryz.sizeOf246
  v171 := Tryz.zeroValue246
  t173 := Tryz.underlying249
  a173 := Tryz.isAgg249
  z173 := Tryz.sizeOf249
  v173 := Tryz.zeroValue249
  t212 := Tryz.underlying262
  a212 := Tryz.isAgg262
  z212 := Tryz.sizeOf262
  v212 := Tryz.zeroValue262
  t213 := Tryz.underlying264
  a213 := Tryz.isAgg264
  z213 := Tryz.sizeOf264
  t232 := Tryz.underlying284
  a232 := Tryz.isAgg284
  z232 := Tryz.sizeOf284
  v232 := Tryz.zeroValue284
  t233 := Tryz.underlying285
  a233 := Tryz.isAgg285
  z233 := Tryz.sizeOf285
  v233 := Tryz.zeroValue285
  g17 := by kernel_rfl
  g18 := by kernel_rfl
  g19 := by kernel_rfl
  i0 := by kernel_rfl
  i2 := by kernel_rfl
  i3 := by kernel_rfl
  i4 := by kernel_rfl
  i5 := by kernel_rfl
  i9 := by kernel_rfl
  i20 := by kernel_rfl
  i37 := by kernel_rfl
  i46 := by kernel_rfl
  i51 := by kernel_rfl
  i53 := by kernel_rfl
  i171 := by kernel_rfl
  i173 := by kernel_rfl
  i212 := by kernel_rfl
  i232 := by kernel_rfl
  i233 := by kernel_rfl
  m17 := by kernel_rfl
  m18 := by kernel_rfl
  m19 := by kernel_rfl }
open Go.RowKit Go.Sort Go.Lib in
/-- strconv.FormatInt: "FormatInt returns the string representation of i in the given base": AT BASE 10: i's decimal numeral, for every int64. (LAID: no walk: one application.) -/
theorem Tryz.strconv_FormatInt_10 (n : Int) (h0 : -9223372036854775808 ≤ n) (h1 : n ≤ 9223372036854775807) (w : World) (htab : Lib.TabIs Tryz.prog w "internal/strconv.uint64pow10" .u64 Lib.pow10Tab) :
    Calls Tryz.prog 174 #[.int .i64 n, .int .i64 10] w fun e w' => e = .returned (.string ⟨(Lib.itoa n).toArray⟩) ∧ ∃ k os, w' = grow (w.drewN k) os := Any.strconv_FormatInt_10 Tryz.laysM173 n h0 h1 w htab
end Go.Proofs
namespace Go.Own
open Go.RowKit
section
variable {P : Program} {ops : Array Oper} {rest : List Oper} {o : Oper} {a : Act} {W w : World} {Q : Exit → Act → World → Prop} {L L' : List Ent}
theorem wpList_strGen {src dst e : TypeId} {x : Operand} {q : Addr} {c : Nat} {l : List UInt8} (ho : o.op = .convert src dst x) (hx : a.eval x = .slice (some q) l.length c) (hs : P.underlying src = some (.slice e)) (he : P.underlying e = some (.int .u8)) (hd : P.underlying dst = some .string)
    (hc : ∀ j (hj : j < l.length), w.cell? (q.add j) = some (.int .u8 (l[j].toNat : Int)))
    (hw : Region.wanted o (yielded ops a.tmps) = true) (h : wpList P ops Q rest (a.put o.dst (.string ⟨l.toArray⟩)) w) : wpList P ops Q (o :: rest) a w := by
  have h1 := run_convert_bytes_back (P := P) w src dst e q c l hs he hd hc
  exact wpList_value hw (by simp [execOp, ho, hx, h1, Result.andThen]) h
theorem wpList_strOne {src dst e : TypeId} {x : Operand} {b n c : Nat} {v : Int} {T : TypeId} (hO : Own W w L) (ho : o.op = .convert src dst x) (hx : a.eval x = .slice (some ⟨b, 0, none⟩) 1 c) (hat : At (box b (.cells [Value.int .u8 v].toArray T)) (box b (.cells [Value.int .u8 v].toArray T)) L L') (hv : v = (n : Int)) (hs : P.underlying src = some (.slice e)) (he : P.underlying e = some (.int .u8)) (hd : P.underlying dst = some .string)
    (hn : n < 256) (hw : Region.wanted o (yielded ops a.tmps) = true) (h : wpList P ops Q rest (a.put o.dst (.string ⟨#[UInt8.ofNat n]⟩)) w) : wpList P ops Q (o :: rest) a w := by
  have hc : ∀ j (hj : j < [UInt8.ofNat n].length), w.cell? ((⟨b, 0, none⟩ : Addr).add j) = some (.int .u8 (([UInt8.ofNat n][j]).toNat : Int)) := fun j hj => by
    obtain rfl : j = 0 := by simp at hj; exact hj
    rw [addAt, cellAt (hO.has _ hat.mem)]
    simp [hv]
    omega
  exact wpList_strGen (l := [UInt8.ofNat n]) ho hx hs he hd hc hw h
end
end Go.Own
namespace Go.Proofs.YtibabfedpdoofaaGreatDoor
open Go.RowKit Go.Own Go.Maps

/-- The value of a numeral. -/
def valD (l : List UInt8) : Nat := l.foldl (fun a b => 10 * a + (b.toNat - 48)) 0
theorem valD_app (l : List UInt8) (b : UInt8) : valD (l ++ [b]) = 10 * valD l + (b.toNat - 48) := by simp [valD, List.foldl_append]
theorem valD_dec (u : Nat) : valD (Lib.decDigits u) = u := by
  induction u using Nat.strongRecOn with
  | _ u ih =>
    by_cases h : u < 10
    · rw [Lib.decDigits, dif_pos h]
      simp only [valD, List.foldl_cons, List.foldl_nil, UInt8.toNat_ofNat']
      omega
    · rw [Lib.decDigits, dif_neg h, valD_app, ih (u / 10) (by omega), UInt8.toNat_ofNat']
      omega
theorem dec_inj {u v : Nat} (h : Lib.decDigits u = Lib.decDigits v) : u = v := by rw [← valD_dec u, h, valD_dec]
theorem dec_digit (u : Nat) : ∀ b ∈ Lib.decDigits u, 48 ≤ b.toNat ∧ b.toNat ≤ 57 := by
  induction u using Nat.strongRecOn with
  | _ u ih =>
    intro b hb
    by_cases h : u < 10
    · rw [Lib.decDigits, dif_pos h] at hb
      rw [List.mem_singleton.1 hb, UInt8.toNat_ofNat']
      omega
    · rw [Lib.decDigits, dif_neg h] at hb
      rcases List.mem_append.1 hb with hb | hb
      · exact ih (u / 10) (by omega) b hb
      · rw [List.mem_singleton.1 hb, UInt8.toNat_ofNat']
        omega
theorem dec_ne (u : Nat) : Lib.decDigits u ≠ [] := by
  by_cases h : u < 10
  · rw [Lib.decDigits, dif_pos h]; simp
  · rw [Lib.decDigits, dif_neg h]; simp
/-- A deed's word. -/
def deedL (d : Int) : List UInt8 := if d = 0 then [114, 101, 115, 101, 114, 118, 101] else if d = 1 then [99, 104, 97, 114, 103, 101] else if d = 2 then [115, 104, 105, 112] else if d = 3 then [114, 101, 108, 101, 97, 115, 101] else if d = 4 then [114, 101, 102, 117, 110, 100] else if d = 5 then [118, 111, 105, 100] else []
def deedsF : Lit → Option Value
  | .string s => if s = deedL 0 then some (.int .i64 0) else if s = deedL 1 then some (.int .i64 1) else if s = deedL 2 then some (.int .i64 2) else if s = deedL 3 then some (.int .i64 3) else if s = deedL 4 then some (.int .i64 4) else if s = deedL 5 then some (.int .i64 5) else none
  | _ => none
theorem deedsF_inv {l : Lit} {v : Value} (h : deedsF l = some v) : ∃ d : Int, 0 ≤ d ∧ d ≤ 5 ∧ l = .string (deedL d) ∧ v = .int .i64 d := by
  cases l <;> simp only [deedsF, reduceCtorEq] at h
  rename_i s
  repeat' split at h
  all_goals first
    | (cases h; done)
    | (rename_i e; simp only [Option.some.injEq] at h; subst e h; first | exact ⟨0, by decide, by decide, rfl, rfl⟩ | exact ⟨1, by decide, by decide, rfl, rfl⟩ | exact ⟨2, by decide, by decide, rfl, rfl⟩ | exact ⟨3, by decide, by decide, rfl, rfl⟩ | exact ⟨4, by decide, by decide, rfl, rfl⟩ | exact ⟨5, by decide, by decide, rfl, rfl⟩)
theorem deedsF_word {d : Int} (h0 : 0 ≤ d) (h5 : d ≤ 5) : deedsF (.string (deedL d)) = some (.int .i64 d) := by
  have : d = 0 ∨ d = 1 ∨ d = 2 ∨ d = 3 ∨ d = 4 ∨ d = 5 := by omega
  rcases this with rfl | rfl | rfl | rfl | rfl | rfl <;> rfl
/-- The words of the deeds, as the program's text lays them. -/
structure DeedsLaid (w : World) : Prop where
  lt : 0 < w.heap.size
  has : ∃ mb n, w.cell? ⟨0, 0, none⟩ = some (.map (some mb)) ∧ (mapE Tryz.prog 9 mb n deedsF).F w
theorem DeedsLaid.below {w w' : World} (h : DeedsLaid w) (hb : Below w.heap.size w w') : DeedsLaid w' := by
  obtain ⟨mb, n, hc, hF⟩ := h.has
  have hlt : mb < w.heap.size := by obtain ⟨D, hD, _⟩ := hF; exact hD.lt
  exact ⟨Nat.lt_of_lt_of_le h.lt hb.size, mb, n, by rw [hb.cell h.lt]; exact hc, mapE_ok _ _ _ _ _ w w' (fun b hb' => by rw [List.mem_singleton.1 hb']; exact hb.block _ hlt) hF⟩
structure LaidE (w : World) : Prop where
  p : Laid w
  d : DeedsLaid w
  t : Lib.TabIs Tryz.prog w "internal/strconv.uint64pow10" .u64 Lib.pow10Tab
theorem gPow : Tryz.prog.globalNamed "internal/strconv.uint64pow10" = some 1 := by kernel_rfl
theorem tab_below {w w' : World} (h : Lib.TabIs Tryz.prog w "internal/strconv.uint64pow10" .u64 Lib.pow10Tab) (hb : Below w.heap.size w w') : Lib.TabIs Tryz.prog w' "internal/strconv.uint64pow10" .u64 Lib.pow10Tab := by
  have hlt : 1 < w.heap.size := by
    have := h.cell gPow 0 (by decide)
    exact World.block_lt_of_cell? w _ this
  unfold Lib.TabIs World.var? at *
  rw [gPow] at h ⊢
  simp only [Option.bind_some] at h ⊢
  rw [hb.block _ hlt]
  exact h
theorem LaidE.below {w w' : World} (h : LaidE w) (hb : Below w.heap.size w w') : LaidE w' := ⟨h.p.below hb h.p.1, h.d.below hb, tab_below h.t hb⟩

theorem itoaK_any (n : Int) (h0 : -9223372036854775808 ≤ n) (h1 : n ≤ 9223372036854775807) {w : World} (hT : LaidE w) : Calls Tryz.prog 109 #[.int .i64 n] w fun e w' => e = .returned (.string ⟨(Lib.itoa n).toArray⟩) ∧ Below w.heap.size w w' :=
  (Tryz.strconv_Itoa n h0 h1 w hT.t).mono fun e w' ⟨he, k, os, hw⟩ => ⟨he, by rw [hw]; exact Lib.below_grow _ w (Nat.le_refl _) k os⟩
theorem mPut_any (n : Int) (h0 : -9223372036854775808 ≤ n) (h1 : n ≤ 9223372036854775807) {w : World} (hT : LaidE w) : Calls Tryz.prog 157 #[.int .i64 n] w fun e w' => e = .returned (.string ⟨(Lib.itoa n).toArray⟩) ∧ Below w.heap.size w w' := by
  have HO := Own.start w
  have FI : Calls Tryz.prog 174 #[.int .i64 n, .int .i64 10] w fun e w' => e = .returned (.string ⟨(Lib.itoa n).toArray⟩) ∧ Below w.heap.size w w' :=
    (Tryz.strconv_FormatInt_10 n h0 h1 w hT.t).mono fun e w' ⟨he, k, os, hw⟩ => ⟨he, by rw [hw]; exact Lib.below_grow _ w (Nat.le_refl _) k os⟩
  clear hT
  go_enter Tryz.func157, Tryz.ntmps157
  go_wp2_with (first | (go_at_call 174; go_must ((with_reducible refine (FI).mono ?_); rintro e w ⟨rfl, hb⟩; replace HO := HO.call hb; clear hb)))
  go_ret
  exact ⟨rfl, HO.grown⟩
end Go.Proofs.YtibabfedpdoofaaGreatDoor
namespace Go.Own
open Go.RowKit Go.Maps Go.WideElems

/-- A map as it lies: entries, what it reads as, what it bears. -/
structure OldMap (P : Program) (kt : TypeId) (w : World) (b n : Nat) (es : Array MapEntry) (clock : Nat) (D : DataW Value) (f : Lit → Option Value) : Prop where
  at' : w.heap[b]? = some (.map es clock)
  fit : Fit P kt tokR es clock
  size : es.size ≤ n
  reads : D = .map ((es.toList.map (rg P kt tokR)).foldr DataW.insert [])
  bears : Bears D f
theorem OldMap.of {P : Program} {kt : TypeId} {w : World} {b n : Nat} {f : Lit → Option Value} (h : (mapE P kt b n f).F w) : ∃ es clock D, OldMap P kt w b n es clock D f := by
  obtain ⟨D, ⟨es, clock, hb, F, hs, hD⟩, hB⟩ := h
  exact ⟨es, clock, D, hb, F, hs, hD, hB⟩
/-- Its iterator. -/
def iterE (P : Program) (kt : TypeId) (b r : Nat) (es : Array MapEntry) (clock : Nat) (left : Lit → Bool) (cnt : Nat) : Ent := ⟨[r], fun w => ∃ since seen c0, w.heap[r]? = some (.mapIter (some b) since seen c0) ∧ (∀ x ∈ es.toList, x.born < since) ∧ (leftOf es seen).size = cnt ∧
    (∀ x ∈ es.toList, left (rg (H := Value) P kt tokR x).1 = !seen.contains x.born) ∧ (∀ kl, left kl = true → ∃ x ∈ es.toList, (rg (H := Value) P kt tokR x).1 = kl) ∧ since ≤ c0 ∧ since ≤ clock⟩
theorem iterE_ok (P : Program) (kt : TypeId) (b r : Nat) (es : Array MapEntry) (clock : Nat) (left : Lit → Bool) (cnt : Nat) : (iterE P kt b r es clock left cnt).Ok := fun w w' h hF => by
  obtain ⟨since, seen, c0, hr, rest⟩ := hF
  exact ⟨since, seen, c0, (h r (by simp [iterE])).trans hr, rest⟩
theorem OldMap.ranges {P : Program} {kt : TypeId} {W w : World} {b r n : Nat} {es : Array MapEntry} {clock : Nat} {D : DataW Value} {f : Lit → Option Value} {left : Lit → Bool} {cnt : Nat} (h : OldMap P kt W b n es clock D f) (hb : Below W.heap.size W w) (hF : (iterE P kt b r es clock left cnt).F w) : w.ranges P kt tokR b r n D left cnt := by
  obtain ⟨since, seen, c0, hr, rest⟩ := hF
  exact ⟨es, clock, since, seen, c0, by rw [hb.block b (lt_of_block h.at')]; exact h.at', h.fit, h.size, h.reads, hr, rest⟩
section
variable {P : Program} {ops : Array Oper} {rest : List Oper} {o : Oper} {a : Act} {W w : World} {Q : Exit → Act → World → Prop} {L : List Ent} {kt et mt : TypeId}
theorem wpList_rangeOld {m : Operand} {b n : Nat} {es : Array MapEntry} {clock : Nat} {D : DataW Value} {f : Lit → Option Value} (hO : Own W w L) (hM : OldMap P kt W b n es clock D f) (ho : o.op = .range mt m) (hm : a.eval m = .map (some b)) (K : Keyed P kt) (ht : P.underlying mt = some (.map kt et))
    (hw : Region.wanted o (yielded ops a.tmps) = true) (h : ∀ r left cnt w', (∀ l, WideAt.IsKeyLit l → ∀ v, f l = some v → left l = true) → Own W w' (iterE P kt b r es clock left cnt :: L) → wpList P ops Q rest (a.put o.dst (.pointer (some ⟨r, 0, none⟩))) w') : wpList P ops Q (o :: rest) a w := by
  have hat := (hO.grown.block b (lt_of_block hM.at')).trans hM.at'
  have hown : w.ownsMap P kt tokR b n D := ⟨es, clock, hat, hM.fit, hM.size, hM.reads⟩
  obtain ⟨w', hrun, r1, r2, r3⟩ := hown.range K ht
  have hr : (execOp a.eval o).run P w = .ok (.value (.pointer (some ⟨w.heap.size, 0, none⟩))) w' := by
    simp [execOp, ho, hm, hrun, Result.andThen]
  have hB : Below w.heap.size w w' := ⟨r2.os, r2.tape, r2.output, r2.size, fun k hk => r2.block k hk (by simp)⟩
  obtain ⟨es', clock', since, seen, c0, hb', F', hs', hD', hit, rest'⟩ := r1
  have e : es' = es ∧ clock' = clock := by
    have := (hB.block b (lt_of_block hat)).trans hat
    rw [hb'] at this
    simpa using this
  obtain ⟨rfl, rfl⟩ := e
  refine wpList_value hw hr (h _ _ _ w' (fun l hl v hv => hM.bears.has hl hv) (hO.more hB (iterE_ok _ _ _ _ _ _ _ _) ⟨since, seen, c0, hit, rest'⟩ (fun b' hb' => ?_) (fun b' hb' => ?_)))
  · rw [show b' = w.heap.size from List.mem_singleton.1 hb']; exact Nat.le_refl _
  · rw [show b' = w.heap.size from List.mem_singleton.1 hb', r3]; omega
theorem wpList_nextOld {it : Operand} {b r n cnt : Nat} {es : Array MapEntry} {clock : Nat} {D : DataW Value} {f : Lit → Option Value} {left : Lit → Bool} {L' : (Lit → Bool) → Nat → List Ent} (hO : Own W w L) (hM : OldMap P kt W b n es clock D f) (ho : o.op = .next it false) (hit : a.eval it = .pointer (some ⟨r, 0, none⟩)) (K : Keyed P kt)
    (hat : ∀ left' cnt', At (iterE P kt b r es clock left cnt) (iterE P kt b r es clock left' cnt') L (L' left' cnt'))
    (hw : Region.wanted o (yielded ops a.tmps) = true) (hDone : (∀ l, left l = false) → wpList P ops Q rest (a.put o.dst (.tuple #[.bool false])) w)
    (hMore : ∀ key c kl cnt' w', keyOf P kt key = some kl → left kl = true → f kl = some c → cnt' < cnt → Own W w' (L' (fun z => left z && !z.sameKey kl) cnt') → (Instr.entry (.pointer (some ⟨r, 0, none⟩))).run P w' = .ok (.tuple #[key, c]) w' →
      wpList P ops Q rest (a.put o.dst (.tuple #[.bool true, key, c])) w') : wpList P ops Q (o :: rest) a w := by
  have hD := hM.ranges hO.grown (hO.has _ (hat left cnt).mem)
  rcases hD.next K o.type with ⟨h0, hl, hrun⟩ | ⟨key, v, kl, y, w', cnt', hkey, hlk, hv, hat', hrun, hrg, hlt, hgr, hsz, hen⟩
  · have hr : (execOp a.eval o).run P w = .ok (.value (.tuple #[.bool false])) w := by
      simp [execOp, ho, hit, hrun, Result.andThen]
    exact wpList_value hw hr (hDone hl)
  · have hr : (execOp a.eval o).run P w = .ok (.value (.tuple #[.bool true, key, v])) w' := by
      simp [execOp, ho, hit, hrun, Result.andThen]
    have hy : y = (.held v, []) := by simp [tokR] at hv; exact hv.symm
    subst hy
    have hne := hD.ne
    have hbb : w.heap[b]? = some (.map es clock) := (hO.grown.block b (lt_of_block hM.at')).trans hM.at'
    have hb2 : w'.heap[b]? = some (.map es clock) := (hgr.block b (lt_of_block hbb) (fun e => hne (Option.some.inj e).symm)).trans hbb
    obtain ⟨es', clock', since, seen, c0, hb', F', hs', hD', hit', rest'⟩ := hrg
    have e : es' = es ∧ clock' = clock := by
      rw [hb'] at hb2
      simpa using hb2
    obtain ⟨rfl, rfl⟩ := e
    refine wpList_value hw hr (hMore key v kl cnt' w' hkey hlk (hM.bears.at (K.key hkey) hat') hlt (hO.turn (hat _ _) hgr.os hgr.tape hgr.output hgr.size (fun k hk hne => hgr.block k hk (fun e => hne (by simp only [Option.some.injEq] at e; simp [iterE, e]))) (iterE_ok _ _ _ _ _ _ _ _) ⟨since, seen, c0, hit', rest'⟩ (fun b' hb' => .inl hb') (fun b' hb' => ?_)) hen)
    rw [show b' = r from List.mem_singleton.1 hb']
    exact lt_of_block hit'
end
end Go.Own
namespace Go.Own
open Go.RowKit Go.Maps

section
variable {P : Program} {Q : Exit → Act → World → Prop} {T : World → Prop} {rest : List (Nat × Bool)} {i : Nat} {l : List Oper} {a : Act} {w : World} {o : Oper}
theorem wpHeld_end {Q : Exit → Act → World → Prop} (h : Q .normal a w) : wpHeld P l.toArray (NoPanic Q) T [] a w := h
theorem wpHeld_value {v : Value} (ho : l[i]? = some o) (hw : Region.wanted o (yielded l.toArray a.tmps) = true) (hr : ∀ w', T w' → (execOp a.eval o).run P w' = .ok (.value v) w') (h : wpHeld P l.toArray Q T rest (a.put o.dst v) w) : wpHeld P l.toArray Q T ((i, true) :: rest) a w := by
  refine ⟨v, ?_, ?_⟩ <;> rw [getD_of ho]
  · exact .inl ⟨hw, hr⟩
  · exact h
theorem wpHeld_pure {v : Value} (ho : l[i]? = some o) (hw : Region.wanted o (yielded l.toArray a.tmps) = true) (hr : ∀ w', (execOp a.eval o).run P w' = .ok (.value v) w') (h : wpHeld P l.toArray Q T rest (a.put o.dst v) w) : wpHeld P l.toArray Q T ((i, true) :: rest) a w :=
  wpHeld_value ho hw (fun w' _ => hr w') h
theorem wpHeld_loud (ho : l[i]? = some o) (h : wpList P l.toArray (thenQ Q T (wpHeld P l.toArray Q T rest)) [o] a w) : wpHeld P l.toArray Q T ((i, false) :: rest) a w := by
  unfold wpHeld
  rw [getD_of ho]
  exact h
theorem wpHeld_loadAt {p : Addr} {cs : List Value} {t m : Nat} {x : Operand} (ho : l[i]? = some o) (hop : o.op = .load t x) (hx : a.eval x = .pointer (some p)) (hc : ∀ w', T w' → ∀ j u, cs[j]? = some u → w'.cell? (p.add j) = some u) (ht : IsAgg P t m) (hm : cs.length = m)
    (hw : Region.wanted o (yielded l.toArray a.tmps) = true) (h : wpHeld P l.toArray Q T rest (a.put o.dst (.agg cs.toArray)) w) : wpHeld P l.toArray Q T ((i, true) :: rest) a w :=
  wpHeld_value ho hw (fun w' hw' => run_load_at x hop hx (hc w' hw') (by rw [hm]; exact ht.1)) h
theorem wpHeld_loadAt1 {p : Addr} {v : Value} {t : Nat} {x : Operand} (ho : l[i]? = some o) (hop : o.op = .load t x) (hx : a.eval x = .pointer (some p)) (hc : ∀ w', T w' → w'.cell? p = some v) (ht : IsOne P t)
    (hw : Region.wanted o (yielded l.toArray a.tmps) = true) (h : wpHeld P l.toArray Q T rest (a.put o.dst v) w) : wpHeld P l.toArray Q T ((i, true) :: rest) a w :=
  wpHeld_value ho hw (fun w' hw' => run_load_at1 x hop hx (hc w' hw') ht.1) h
variable {Ls Ls' : List Ent}
theorem wpHeld_loadOne {b off : Nat} {cs : List Value} {v : Value} {U t : TypeId} {x : Operand} (ho : l[i]? = some o) (hop : o.op = .load t x) (hx : a.eval x = .pointer (some ⟨b, off, none⟩)) (hat : At (box b (.cells cs.toArray U)) (box b (.cells cs.toArray U)) Ls Ls')
    (hv : cs[off]? = some v) (ht : IsOne P t) (hw : Region.wanted o (yielded l.toArray a.tmps) = true) (h : wpHeld P l.toArray Q (Held Ls) rest (a.put o.dst v) w) : wpHeld P l.toArray Q (Held Ls) ((i, true) :: rest) a w :=
  wpHeld_value ho hw (fun w' hw' => run_load_at1 x hop hx (by rw [cellAt (hw' _ hat.mem)]; exact hv) ht.1) h
end
/-- The beginning, where old memory is read too. -/
theorem region_schedO {P : Program} {Q : Exit → Act → World → Prop} {W w : World} {L : List Ent} {id : Nat} {a : Act} {l : List Oper} (Ls : List Ent) (π : List (Nat × Bool)) (hO : Own W w L) (hLs : Ls.Sublist L) (hm : P.follows .mixedOrders = true)
    (hB : (Region.noSelect l.toArray && decide (π.length = l.length) && schedB l.toArray π (Array.replicate l.toArray.size false)) = true)
    (h : ∀ w', Own W w' L → wpHeld P l.toArray (NoPanic Q) (Held (oldE W :: Ls)) π a w') : (Code.region id l.toArray true).wp P Q a w := by
  simp only [Bool.and_eq_true, decide_eq_true_eq] at hB
  obtain ⟨⟨h1, h2⟩, h3⟩ := hB
  refine wp_region_noPanic (wp_region_held (S := Held (oldE W :: Ls)) hm ?_)
  have hO' := hO.drew
  have := anyH_of_sched (P := P) (Q := NoPanic Q) (S := Held (oldE W :: Ls)) h1 (fun _ _ _ _ _ hh => (hh : False).elim) π _ a _ h3 (hO'.heldO hLs) (h _ hO')
  rw [h2] at this
  simpa using this
end Go.Own

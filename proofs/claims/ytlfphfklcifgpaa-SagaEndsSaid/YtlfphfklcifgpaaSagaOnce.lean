/-
  The law SagaOnce returns true, by walking its text; conditions: texts no longer than memory bears. (Printed by wip/mkonce.py.)
-/
import Derived.Test.YtlfphfklcifgpaaSagaLed
namespace Go.Proofs.Ytlfphfklcifgpaa
open Go.RowKit Go.Own

theorem once_ok : ∀ s ∈ RL, (waitsOf s).2 = true → ∀ code z, replyOf s (waitsOf s).1 code = some z → replyOf z (waitsOf s).1 code = none ∧ z ∈ RL := by
  have h : ∀ code ∈ [(1 : Int), 2], (RL.all fun s => !(waitsOf s).2 || match replyOf s (waitsOf s).1 code with
    | some z => (replyOf z (waitsOf s).1 code).isNone && decide (z ∈ RL)
    | none => true) = true := by decide +kernel
  intro s hs hw code z hz
  have hc : code ∈ [(1 : Int), 2] := by
    unfold replyOf at hz
    split at hz
    · rename_i hh
      rcases hh.2.2 with h1 | ⟨h1, _⟩ <;> simp [h1]
    · cases hz
  have h1 := List.all_eq_true.1 (h code hc) s hs
  simp only [hw, hz, Bool.not_true, Bool.false_or, Bool.and_eq_true, Option.isNone_iff_eq_none, decide_eq_true_eq] at h1
  exact h1
theorem reply_waits {s : D6} {n code : Int} (h : (waitsOf s).2 = false) : replyOf s n code = none := by simp [replyOf, h]

set_option maxHeartbeats 8000000 in
set_option maxRecDepth 100000 in
theorem sagaOnce_any (o : OrdS) (s : D6) (code : Int) (w : World) (h1 : o.ref.length ≤ maxLen) (h2 : o.sku.length ≤ maxLen) :
    Calls Try.prog 3 #[sagaV o s, .int .i64 code] w fun e w' => e = .returned (.bool true) ∧ Below w.heap.size w w' := by
  have W := fun w => waits_any o s w
  have V := fun w => valid_any o s w h1 h2
  have O := fun w => led_any w
  have R := fun w => reply_any o s (waitsOf s).1 code w
  have HK := Lib.hid (once_ok s)
  have HV := Lib.hid (show validS o s = true → s ∈ RL ∧ ∀ z, z ∈ RL → validS o z = true from fun h => by
    simp only [validS, Bool.and_eq_true, decide_eq_true_eq] at h ⊢
    exact ⟨h.2, fun z hz => ⟨h.1, hz⟩⟩)
  have HN := Lib.hid (fun n => @reply_waits s n code)
  generalize hw : waitsOf s = p at *
  obtain ⟨n, v⟩ := p
  simp only at W R
  cases hr : replyOf s n code with
  | none =>
    rw [hr] at R
    simp only [sagaV, replyV, noneV] at W R V ⊢
    clear hr hw
    cases hv : validS o s
    · rw [hv] at V
      have tok0 : True := trivial
      have tok1 : True := trivial
      have tok2 : True := trivial
      have tok3 : True := trivial
      go_enter Try.func3, Try.ntmps3
      go_wp2_with (first
        | (go_at_call 6; have _t := tok0; go_must ((with_reducible refine (W _).mono ?_); rintro e w1 ⟨rfl, hb⟩; clear tok0 _t; have bb := Box.of hb; have e1 := bb.eq; have l1 := bb.lt; have HB1 := Lib.hid bb; clear bb; have HW := Lib.hid (show Below w.heap.size w w1 from Below.trans ((Below.refl _ _).alloc (Nat.le_refl _) _) (hb.mono (by simp))); clear hb))
        | (go_at_call 7; have _t := tok1; go_must ((with_reducible refine (R _).mono ?_); rintro e w2 ⟨rfl, hb⟩; clear tok1 _t; have bb := (HB1.out).below hb (HB1.out).lt; clear HB1 e1 l1; have e1 := bb.eq; have l1 := bb.lt; have HB1 := Lib.hid bb; clear bb; have HW2 := Lib.hid (HW.out.trans (hb.mono HW.out.size)); clear HW; have HW := Lib.hid HW2.out; clear HW2; clear hb))
        | (go_at_call 8; have _t := tok2; go_must ((with_reducible refine (V _).mono ?_); rintro e w3 ⟨rfl, hb⟩; clear tok2 _t; have bb := (HB1.out.alloc _).below hb (HB1.out.alloc _).lt; clear HB1 e1 l1; have e1 := bb.eq; have l1 := bb.lt; have HB1 := Lib.hid bb; clear bb; have bb := Box.of hb; have e7 := bb.eq; have l7 := bb.lt; have HB7 := Lib.hid bb; clear bb; have HW2 := Lib.hid (HW.out.trans (Below.trans ((Below.refl _ _).alloc (Nat.le_refl _) _) (hb.mono (by simp)) |>.mono HW.out.size)); clear HW; have HW := Lib.hid HW2.out; clear HW2; clear hb))
        | (go_at_call 9; have _t := tok3; go_must ((with_reducible refine (O _).mono ?_); rintro e w4 ⟨rfl, hb⟩; clear tok3 _t; have bb := (HB1.out).below hb (HB1.out).lt; clear HB1 e1 l1; have e1 := bb.eq; have l1 := bb.lt; have HB1 := Lib.hid bb; clear bb; have bb := (HB7.out).below hb (HB7.out).lt; clear HB7 e7 l7; have e7 := bb.eq; have l7 := bb.lt; have HB7 := Lib.hid bb; clear bb; have HW2 := Lib.hid (HW.out.trans (hb.mono HW.out.size)); clear HW; have HW := Lib.hid HW2.out; clear HW2; clear hb)))
      go_ret
      exact ⟨rfl, HW.out⟩
    · rw [hv] at V
      cases v
      · have tok0 : True := trivial
        have tok1 : True := trivial
        have tok2 : True := trivial
        have tok3 : True := trivial
        go_enter Try.func3, Try.ntmps3
        go_wp2_with (first
          | (go_at_call 6; have _t := tok0; go_must ((with_reducible refine (W _).mono ?_); rintro e w1 ⟨rfl, hb⟩; clear tok0 _t; have bb := Box.of hb; have e1 := bb.eq; have l1 := bb.lt; have HB1 := Lib.hid bb; clear bb; have HW := Lib.hid (show Below w.heap.size w w1 from Below.trans ((Below.refl _ _).alloc (Nat.le_refl _) _) (hb.mono (by simp))); clear hb))
          | (go_at_call 7; have _t := tok1; go_must ((with_reducible refine (R _).mono ?_); rintro e w2 ⟨rfl, hb⟩; clear tok1 _t; have bb := (HB1.out).below hb (HB1.out).lt; clear HB1 e1 l1; have e1 := bb.eq; have l1 := bb.lt; have HB1 := Lib.hid bb; clear bb; have HW2 := Lib.hid (HW.out.trans (hb.mono HW.out.size)); clear HW; have HW := Lib.hid HW2.out; clear HW2; clear hb))
          | (go_at_call 8; have _t := tok2; go_must ((with_reducible refine (V _).mono ?_); rintro e w3 ⟨rfl, hb⟩; clear tok2 _t; have bb := (HB1.out.alloc _).below hb (HB1.out.alloc _).lt; clear HB1 e1 l1; have e1 := bb.eq; have l1 := bb.lt; have HB1 := Lib.hid bb; clear bb; have bb := Box.of hb; have e7 := bb.eq; have l7 := bb.lt; have HB7 := Lib.hid bb; clear bb; have HW2 := Lib.hid (HW.out.trans (Below.trans ((Below.refl _ _).alloc (Nat.le_refl _) _) (hb.mono (by simp)) |>.mono HW.out.size)); clear HW; have HW := Lib.hid HW2.out; clear HW2; clear hb))
          | (go_at_call 9; have _t := tok3; go_must ((with_reducible refine (O _).mono ?_); rintro e w4 ⟨rfl, hb⟩; clear tok3 _t; have bb := (HB1.out).below hb (HB1.out).lt; clear HB1 e1 l1; have e1 := bb.eq; have l1 := bb.lt; have HB1 := Lib.hid bb; clear bb; have bb := (HB7.out).below hb (HB7.out).lt; clear HB7 e7 l7; have e7 := bb.eq; have l7 := bb.lt; have HB7 := Lib.hid bb; clear bb; have HW2 := Lib.hid (HW.out.trans (hb.mono HW.out.size)); clear HW; have HW := Lib.hid HW2.out; clear HW2; clear hb)))
        go_ret
        exact ⟨rfl, HW.out⟩
      · have tok0 : True := trivial
        have tok1 : True := trivial
        have tok2 : True := trivial
        have tok3 : True := trivial
        go_enter Try.func3, Try.ntmps3
        go_wp2_with (first
          | (go_at_call 6; have _t := tok0; go_must ((with_reducible refine (W _).mono ?_); rintro e w1 ⟨rfl, hb⟩; clear tok0 _t; have bb := Box.of hb; have e1 := bb.eq; have l1 := bb.lt; have HB1 := Lib.hid bb; clear bb; have HW := Lib.hid (show Below w.heap.size w w1 from Below.trans ((Below.refl _ _).alloc (Nat.le_refl _) _) (hb.mono (by simp))); clear hb))
          | (go_at_call 7; have _t := tok1; go_must ((with_reducible refine (R _).mono ?_); rintro e w2 ⟨rfl, hb⟩; clear tok1 _t; have bb := (HB1.out).below hb (HB1.out).lt; clear HB1 e1 l1; have e1 := bb.eq; have l1 := bb.lt; have HB1 := Lib.hid bb; clear bb; have HW2 := Lib.hid (HW.out.trans (hb.mono HW.out.size)); clear HW; have HW := Lib.hid HW2.out; clear HW2; clear hb))
          | (go_at_call 8; have _t := tok2; go_must ((with_reducible refine (V _).mono ?_); rintro e w3 ⟨rfl, hb⟩; clear tok2 _t; have bb := (HB1.out.alloc _).below hb (HB1.out.alloc _).lt; clear HB1 e1 l1; have e1 := bb.eq; have l1 := bb.lt; have HB1 := Lib.hid bb; clear bb; have bb := Box.of hb; have e7 := bb.eq; have l7 := bb.lt; have HB7 := Lib.hid bb; clear bb; have HW2 := Lib.hid (HW.out.trans (Below.trans ((Below.refl _ _).alloc (Nat.le_refl _) _) (hb.mono (by simp)) |>.mono HW.out.size)); clear HW; have HW := Lib.hid HW2.out; clear HW2; clear hb))
          | (go_at_call 9; have _t := tok3; go_must ((with_reducible refine (O _).mono ?_); rintro e w4 ⟨rfl, hb⟩; clear tok3 _t; have bb := (HB1.out).below hb (HB1.out).lt; clear HB1 e1 l1; have e1 := bb.eq; have l1 := bb.lt; have HB1 := Lib.hid bb; clear bb; have bb := (HB7.out).below hb (HB7.out).lt; clear HB7 e7 l7; have e7 := bb.eq; have l7 := bb.lt; have HB7 := Lib.hid bb; clear bb; have HW2 := Lib.hid (HW.out.trans (hb.mono HW.out.size)); clear HW; have HW := Lib.hid HW2.out; clear HW2; clear hb)))
        go_ret
        exact ⟨rfl, HW.out⟩
  | some z =>
    rw [hr] at R
    cases hv : validS o s
    · rw [hv] at V
      simp only [sagaV, replyV, noneV] at W R V ⊢
      clear hr hw
      have tok0 : True := trivial
      have tok1 : True := trivial
      have tok2 : True := trivial
      have tok3 : True := trivial
      go_enter Try.func3, Try.ntmps3
      go_wp2_with (first
        | (go_at_call 6; have _t := tok0; go_must ((with_reducible refine (W _).mono ?_); rintro e w1 ⟨rfl, hb⟩; clear tok0 _t; have bb := Box.of hb; have e1 := bb.eq; have l1 := bb.lt; have HB1 := Lib.hid bb; clear bb; have HW := Lib.hid (show Below w.heap.size w w1 from Below.trans ((Below.refl _ _).alloc (Nat.le_refl _) _) (hb.mono (by simp))); clear hb))
        | (go_at_call 7; have _t := tok1; go_must ((with_reducible refine (R _).mono ?_); rintro e w2 ⟨rfl, hb⟩; clear tok1 _t; have bb := (HB1.out).below hb (HB1.out).lt; clear HB1 e1 l1; have e1 := bb.eq; have l1 := bb.lt; have HB1 := Lib.hid bb; clear bb; have HW2 := Lib.hid (HW.out.trans (hb.mono HW.out.size)); clear HW; have HW := Lib.hid HW2.out; clear HW2; clear hb))
        | (go_at_call 8; have _t := tok2; go_must ((with_reducible refine (V _).mono ?_); rintro e w3 ⟨rfl, hb⟩; clear tok2 _t; have bb := (HB1.out.alloc _).below hb (HB1.out.alloc _).lt; clear HB1 e1 l1; have e1 := bb.eq; have l1 := bb.lt; have HB1 := Lib.hid bb; clear bb; have bb := Box.of hb; have e7 := bb.eq; have l7 := bb.lt; have HB7 := Lib.hid bb; clear bb; have HW2 := Lib.hid (HW.out.trans (Below.trans ((Below.refl _ _).alloc (Nat.le_refl _) _) (hb.mono (by simp)) |>.mono HW.out.size)); clear HW; have HW := Lib.hid HW2.out; clear HW2; clear hb))
        | (go_at_call 9; have _t := tok3; go_must ((with_reducible refine (O _).mono ?_); rintro e w4 ⟨rfl, hb⟩; clear tok3 _t; have bb := (HB1.out).below hb (HB1.out).lt; clear HB1 e1 l1; have e1 := bb.eq; have l1 := bb.lt; have HB1 := Lib.hid bb; clear bb; have bb := (HB7.out).below hb (HB7.out).lt; clear HB7 e7 l7; have e7 := bb.eq; have l7 := bb.lt; have HB7 := Lib.hid bb; clear bb; have HW2 := Lib.hid (HW.out.trans (hb.mono HW.out.size)); clear HW; have HW := Lib.hid HW2.out; clear HW2; clear hb)))
      go_ret
      exact ⟨rfl, HW.out⟩
    · cases v
      · rw [HN.out n rfl] at hr
        cases hr
      · obtain ⟨hs, hz⟩ := HV.out hv
        obtain ⟨k1, k2⟩ := HK.out hs rfl code z hr
        have R2 := fun w => reply_any o z n code w
        have V2 := fun w => valid_any o z w h1 h2
        rw [hz z k2] at V2
        rw [show replyOf z n code = none from k1] at R2
        rw [hv] at V
        simp only [sagaV, replyV, noneV] at W R V R2 V2 ⊢
        clear hr hw hz k1 k2 hs hv
        have tok0 : True := trivial
        have tok1 : True := trivial
        have tok2 : True := trivial
        have tok3 : True := trivial
        have tok4 : True := trivial
        have tok5 : True := trivial
        go_enter Try.func3, Try.ntmps3
        go_wp2_with (first
          | (go_at_call 6; have _t := tok0; go_must ((with_reducible refine (W _).mono ?_); rintro e w1 ⟨rfl, hb⟩; clear tok0 _t; have bb := Box.of hb; have e1 := bb.eq; have l1 := bb.lt; have HB1 := Lib.hid bb; clear bb; have HW := Lib.hid (show Below w.heap.size w w1 from Below.trans ((Below.refl _ _).alloc (Nat.le_refl _) _) (hb.mono (by simp))); clear hb))
          | (go_at_call 7; have _t := tok1; go_must ((with_reducible refine (R _).mono ?_); rintro e w2 ⟨rfl, hb⟩; clear tok1 _t; have bb := (HB1.out).below hb (HB1.out).lt; clear HB1 e1 l1; have e1 := bb.eq; have l1 := bb.lt; have HB1 := Lib.hid bb; clear bb; have HW2 := Lib.hid (HW.out.trans (hb.mono HW.out.size)); clear HW; have HW := Lib.hid HW2.out; clear HW2; clear hb))
          | (go_at_call 8; have _t := tok2; go_must ((with_reducible refine (V _).mono ?_); rintro e w3 ⟨rfl, hb⟩; clear tok2 _t; have bb := (HB1.out.alloc _).below hb (HB1.out.alloc _).lt; clear HB1 e1 l1; have e1 := bb.eq; have l1 := bb.lt; have HB1 := Lib.hid bb; clear bb; have bb := Box.of hb; have e7 := bb.eq; have l7 := bb.lt; have HB7 := Lib.hid bb; clear bb; have HW2 := Lib.hid (HW.out.trans (Below.trans ((Below.refl _ _).alloc (Nat.le_refl _) _) (hb.mono (by simp)) |>.mono HW.out.size)); clear HW; have HW := Lib.hid HW2.out; clear HW2; clear hb))
          | (go_at_call 7; have _t := tok3; go_must ((with_reducible refine (R2 _).mono ?_); rintro e w4 ⟨rfl, hb⟩; clear tok3 _t; have bb := (HB1.out).below hb (HB1.out).lt; clear HB1 e1 l1; have e1 := bb.eq; have l1 := bb.lt; have HB1 := Lib.hid bb; clear bb; have bb := (HB7.out).below hb (HB7.out).lt; clear HB7 e7 l7; have e7 := bb.eq; have l7 := bb.lt; have HB7 := Lib.hid bb; clear bb; have HW2 := Lib.hid (HW.out.trans (hb.mono HW.out.size)); clear HW; have HW := Lib.hid HW2.out; clear HW2; clear hb))
          | (go_at_call 8; have _t := tok4; go_must ((with_reducible refine (V2 _).mono ?_); rintro e w5 ⟨rfl, hb⟩; clear tok4 _t; have bb := (HB1.out.alloc _).below hb (HB1.out.alloc _).lt; clear HB1 e1 l1; have e1 := bb.eq; have l1 := bb.lt; have HB1 := Lib.hid bb; clear bb; have bb := (HB7.out.alloc _).below hb (HB7.out.alloc _).lt; clear HB7 e7 l7; have e7 := bb.eq; have l7 := bb.lt; have HB7 := Lib.hid bb; clear bb; have bb := Box.of hb; have e9 := bb.eq; have l9 := bb.lt; have HB9 := Lib.hid bb; clear bb; have HW2 := Lib.hid (HW.out.trans (Below.trans ((Below.refl _ _).alloc (Nat.le_refl _) _) (hb.mono (by simp)) |>.mono HW.out.size)); clear HW; have HW := Lib.hid HW2.out; clear HW2; clear hb))
          | (go_at_call 9; have _t := tok5; go_must ((with_reducible refine (O _).mono ?_); rintro e w6 ⟨rfl, hb⟩; clear tok5 _t; have bb := (HB1.out).below hb (HB1.out).lt; clear HB1 e1 l1; have e1 := bb.eq; have l1 := bb.lt; have HB1 := Lib.hid bb; clear bb; have bb := (HB7.out).below hb (HB7.out).lt; clear HB7 e7 l7; have e7 := bb.eq; have l7 := bb.lt; have HB7 := Lib.hid bb; clear bb; have bb := (HB9.out).below hb (HB9.out).lt; clear HB9 e9 l9; have e9 := bb.eq; have l9 := bb.lt; have HB9 := Lib.hid bb; clear bb; have HW2 := Lib.hid (HW.out.trans (hb.mono HW.out.size)); clear HW; have HW := Lib.hid HW2.out; clear HW2; clear hb)))
        go_ret
        exact ⟨rfl, HW.out⟩
end Go.Proofs.Ytlfphfklcifgpaa

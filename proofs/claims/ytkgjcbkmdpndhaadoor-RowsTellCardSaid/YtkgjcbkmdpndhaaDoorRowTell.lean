/-
  The law RowsTell returns true, by walking its text; conditions: the rows lie in memory, the table of parties as laid.
-/
import Derived.Test.YtkgjcbkmdpndhaaDoorRowCopy
namespace Go.Proofs.YtkgjcbkmdpndhaaDoor
open Go.RowKit Go.Own

set_option maxHeartbeats 4000000 in
set_option maxRecDepth 100000 in
theorem rowsTell_any {w : World} {v : Value} {rs : List RowS} (p q party order : Int) (h : IsRows w v rs) (hL : Laid w) :
    Calls Tryd.prog 4 #[.agg #[.int .i64 p, .int .i64 q, v], .int .i64 party, .int .i64 order] w fun e w' => e = .returned (.bool true) ∧ Below w.heap.size w w' := by
  have HL := Lib.hid hL
  have hpos : 0 < w.heap.size := hL.1
  have O := stated12_any
  obtain ⟨sp, sc, rfl, hmx0⟩ := h.slice
  have hmx : (rs.length : Int) ≤ 9223372036854775807 := by unfold maxLen at hmx0; omega
  have HH := Lib.hid h
  clear hL h
  by_cases hg : 450 < rs.length
  · have hg1 : (450 : Int) < (rs.length : Int) := by omega
    go_enter Tryd.func4, Tryd.ntmps4
    go_wp2_with (go_at_call 19; go_must ((with_reducible refine (O _ (HL.out.below (by with_reducible (repeat (first | assumption | exact Below.refl _ _ | refine Below.drew ?_ | refine below_drewN ?_ _ | refine Below.alloc ?_ (by first | (simp; done) | omega | (simp; omega)) _ | refine Below.setCell ?_ (by first | (simp; done) | omega | (simp; omega)) _ | refine Below.trans ?_ (Below.mono (by assumption) (by first | (simp; done) | omega | (simp; omega)))))) hpos)).mono ?_); rintro e w1 ⟨rfl, hb⟩; obtain ⟨hc, hf⟩ := bcell hb; have hz := hb.size; (try simp at hz); (try have hzT := Nat.lt_of_succ_le hz); have hzA : w.heap.size < w1.heap.size := (by omega); have hzA2 := Nat.le_of_lt hzA))
    go_ret
    exact ⟨rfl, (by with_reducible (repeat (first | assumption | exact Below.refl _ _ | refine Below.drew ?_ | refine below_drewN ?_ _ | refine Below.alloc ?_ (by first | (simp; done) | omega | (simp; omega)) _ | refine Below.setCell ?_ (by first | (simp; done) | omega | (simp; omega)) _ | refine Below.trans ?_ (Below.mono (by assumption) (by first | (simp; done) | omega | (simp; omega))))))⟩
  · have hl : rs.length ≤ 450 := by omega
    have hg1 : (rs.length : Int) ≤ 450 := by omega
    have H1 := Lib.hid (fun W (hb : Below w.heap.size w W) => HH.out.below hb HH.out.lt)
    have D := fun q W (hb : Below w.heap.size w W) => rowsRef_any q (H1.out W hb)
    have V2 := fun W (hb : Below w.heap.size w W) => refValid_any p q (H1.out W hb)
    have P2 := fun W (hb : Below w.heap.size w W) => refPutStmt_any p q (H1.out W hb)
    have N2 := fun W (hb : Below w.heap.size w W) => refNet_any order (H1.out W hb)
    go_enter Tryd.func4, Tryd.ntmps4
    go_wp2_with (at_builtin; go_must (refine wpList_copyRows (rs := rs) (v := .slice sp rs.length sc) rfl _ rfl rfl (H1.out _ (by with_reducible (repeat (first | assumption | exact Below.refl _ _ | refine Below.drew ?_ | refine below_drewN ?_ _ | refine Below.alloc ?_ (by first | (simp; done) | omega | (simp; omega)) _ | refine Below.setCell ?_ (by first | (simp; done) | omega | (simp; omega)) _ | refine Below.trans ?_ (Below.mono (by assumption) (by first | (simp; done) | omega | (simp; omega))))))) (by omega) ?_))
    intro v' w1 hown hb
    have I0 := Lib.hid (isRows_of_owns hown)
    have hv0 := I0.out.lt
    obtain ⟨sp', sc', rfl, _⟩ := I0.out.slice
    have hw1 : Below w.heap.size w w1 := (by with_reducible (repeat (first | assumption | exact Below.refl _ _ | refine Below.drew ?_ | refine below_drewN ?_ _ | refine Below.alloc ?_ (by first | (simp; done) | omega | (simp; omega)) _ | refine Below.setCell ?_ (by first | (simp; done) | omega | (simp; omega)) _ | refine Below.trans ?_ (Below.mono (by assumption) (by first | (simp; done) | omega | (simp; omega))))))
    have H2 := Lib.hid (fun W (hb : Below w1.heap.size w1 W) => I0.out.below hb hv0)
    clear hown hv0
    have hz := hb.size
    simp at hz
    obtain ⟨hc, hf⟩ := bcell hb
    have C := fun q W (hb : Below w1.heap.size w1 W) h => rowsCheck_any q (H2.out W hb) h
    have V1 := fun W (hb : Below w1.heap.size w1 W) h => rowsValid_any p q (H2.out W hb) h
    have P1 := fun W (hb : Below w1.heap.size w1 W) h => putStmt_any p q (H2.out W hb) h
    have N1 := fun W (hb : Below w1.heap.size w1 W) h => net_any order (H2.out W hb) h
    have S1 := fun W (hb : Below w1.heap.size w1 W) => refSame_any p q p q (H1.out W (hw1.trans (hb.mono (by omega)))) (H2.out W hb)
    rw [sameStmt_iff.2 ⟨rfl, rfl, rfl⟩] at S1
    go_wp2_with fail
    go_loopw [8, 9] (fun k _ wr => ∃ j : Nat, j ≤ 6 ∧ k = .int .i64 ((j : Int) - 1) ∧ Below w1.heap.size w1 wr) (fun k _ _ => (6 - (intOf k + 1)).toNat)
    case atStart => exact ⟨0, by omega, by go_num, Below.refl _ _⟩
    case round =>
      obtain ⟨j, hj, rfl, hbr⟩ := hrel
      obtain ⟨hcr, hfr⟩ := bcell hbr
      have hzr := hbr.size
      have HLr := Lib.hid ((HL.out.below hw1 hpos).below hbr (by omega))
      have hwr : Below w.heap.size w wr := hw1.trans (hbr.mono (by omega))
      have hposr : 0 < wr.heap.size := by omega
      have hzA : w.heap.size < w1.heap.size := by omega
      have hzA' : w.heap.size < wr.heap.size := by omega
      by_cases hj9 : j = 6
      · subst hj9
        go_wp2_with fail
        have hbW := hbr.alloc hzr (.cells #[.int .i64 p, .int .i64 q, .slice sp' rs.length sc'] 37)
        have hwW := hwr.alloc (Nat.le_of_lt hzA') (.cells #[.int .i64 p, .int .i64 q, .slice sp' rs.length sc'] 37)
        have HLW := Lib.hid (HLr.out.below (hb := (Below.refl wr.heap.size wr).alloc (Nat.le_refl _) (.cells #[.int .i64 p, .int .i64 q, .slice sp' rs.length sc'] 37)) hposr)
        have LB := fun x => hbW.trans ((later_below (wr.alloc (.cells #[.int .i64 p, .int .i64 q, .slice sp' rs.length sc'] 37)) (wr.heap.size + 1) x).mono (by omega))
        have LW := fun x => hwW.trans ((later_below (wr.alloc (.cells #[.int .i64 p, .int .i64 q, .slice sp' rs.length sc'] 37)) (wr.heap.size + 1) x).mono (by omega))
        have LL := fun x => HLW.out.later (x := x) (show 0 < wr.heap.size + 1 by omega)
        refine region_later (by kernel_rfl) (by kernel_rfl) ?_
        repeat (first | go_big_quiet_step ((first | (go_at_call 22; (with_reducible exact calls_later (by first | exact Nat.le_refl _ | (simp; done)) (V1 _ (LB _) (LL _)))) | (go_at_call 23; (with_reducible exact calls_later (by first | exact Nat.le_refl _ | (simp; done)) (V2 _ (LW _)))) | (go_at_call 24; (with_reducible exact calls_later (by first | exact Nat.le_refl _ | (simp; done)) (P1 _ (LB _) (LL _)))) | (go_at_call 25; (with_reducible exact calls_later (by first | exact Nat.le_refl _ | (simp; done)) (P2 _ (LW _)))) | (go_at_call 26; (with_reducible exact calls_later (by first | exact Nat.le_refl _ | (simp; done)) (N1 _ (LB _) (LL _)))) | (go_at_call 27; (with_reducible exact calls_later (by first | exact Nat.le_refl _ | (simp; done)) (N2 _ (LW _)))) | (go_at_call 28; (with_reducible exact calls_later (by first | exact Nat.le_refl _ | (simp; done)) (S1 _ (LB _)))) | (go_at_call 19; (with_reducible exact calls_later (by first | exact Nat.le_refl _ | (simp; done)) (O _ (LL _)))))) | quiet_step ((first | (go_at_call 22; (with_reducible exact calls_later (by first | exact Nat.le_refl _ | (simp; done)) (V1 _ (LB _) (LL _)))) | (go_at_call 23; (with_reducible exact calls_later (by first | exact Nat.le_refl _ | (simp; done)) (V2 _ (LW _)))) | (go_at_call 24; (with_reducible exact calls_later (by first | exact Nat.le_refl _ | (simp; done)) (P1 _ (LB _) (LL _)))) | (go_at_call 25; (with_reducible exact calls_later (by first | exact Nat.le_refl _ | (simp; done)) (P2 _ (LW _)))) | (go_at_call 26; (with_reducible exact calls_later (by first | exact Nat.le_refl _ | (simp; done)) (N1 _ (LB _) (LL _)))) | (go_at_call 27; (with_reducible exact calls_later (by first | exact Nat.le_refl _ | (simp; done)) (N2 _ (LW _)))) | (go_at_call 28; (with_reducible exact calls_later (by first | exact Nat.le_refl _ | (simp; done)) (S1 _ (LB _)))) | (go_at_call 19; (with_reducible exact calls_later (by first | exact Nat.le_refl _ | (simp; done)) (O _ (LL _)))))))
        refine wpQuiet_nil ?_
        intro w1 hb
        obtain ⟨hc, hf⟩ := bcell hb
        have hz2 := hb.size
        simp at hz2
        go_wp2_with fail
        go_ret
        exact ⟨rfl, (by with_reducible (repeat (first | assumption | exact Below.refl _ _ | refine Below.drew ?_ | refine below_drewN ?_ _ | refine Below.alloc ?_ (by first | (simp; done) | omega | (simp; omega)) _ | refine Below.setCell ?_ (by first | (simp; done) | omega | (simp; omega)) _ | refine Below.trans ?_ (Below.mono (by assumption) (by first | (simp; done) | omega | (simp; omega))))))⟩
      · by_cases hj8 : j = 5
        · subst hj8
          go_wp2_with fail
          refine region_later (by kernel_rfl) (by kernel_rfl) ?_
          repeat (first | go_big_quiet_step ((first | (go_at_call 20; (with_reducible exact calls_later (by first | exact Nat.le_refl _ | (simp; done)) (C _ _ (hbr.trans ((later_below _ _ _).mono (by omega))) (by exact HLr.out.later hposr)))) | (go_at_call 21; (with_reducible exact calls_later (by first | exact Nat.le_refl _ | (simp; done)) (D _ _ (hwr.trans ((later_below _ _ _).mono (by omega)))))))) | quiet_step ((first | (go_at_call 20; (with_reducible exact calls_later (by first | exact Nat.le_refl _ | (simp; done)) (C _ _ (hbr.trans ((later_below _ _ _).mono (by omega))) (by exact HLr.out.later hposr)))) | (go_at_call 21; (with_reducible exact calls_later (by first | exact Nat.le_refl _ | (simp; done)) (D _ _ (hwr.trans ((later_below _ _ _).mono (by omega)))))))))
          refine wpQuiet_nil ?_
          intro w1 hb
          obtain ⟨hc, hf⟩ := bcell hb
          have hz2 := hb.size
          go_wp2_with fail
          go_roundw
          case rel => exact ⟨6, by omega, by go_num, hbr.trans (hb.mono hzr)⟩
          case measure => simp [intOf] <;> omega
        · go_wp2_with fail
          refine region_later (by kernel_rfl) (by kernel_rfl) ?_
          repeat (first | go_big_quiet_step ((first | (go_at_call 20; (with_reducible exact calls_later (by first | exact Nat.le_refl _ | (simp; done)) (C _ _ (hbr.trans ((later_below _ _ _).mono (by omega))) (by exact HLr.out.later hposr)))) | (go_at_call 21; (with_reducible exact calls_later (by first | exact Nat.le_refl _ | (simp; done)) (D _ _ (hwr.trans ((later_below _ _ _).mono (by omega)))))))) | quiet_step ((first | (go_at_call 20; (with_reducible exact calls_later (by first | exact Nat.le_refl _ | (simp; done)) (C _ _ (hbr.trans ((later_below _ _ _).mono (by omega))) (by exact HLr.out.later hposr)))) | (go_at_call 21; (with_reducible exact calls_later (by first | exact Nat.le_refl _ | (simp; done)) (D _ _ (hwr.trans ((later_below _ _ _).mono (by omega)))))))))
          refine wpQuiet_nil ?_
          intro w1 hb
          obtain ⟨hc, hf⟩ := bcell hb
          have hz2 := hb.size
          go_wp2_with fail
          go_roundw
          case rel => exact ⟨j + 1, by omega, by go_num, hbr.trans (hb.mono hzr)⟩
          case measure => simp [intOf] <;> omega
end Go.Proofs.YtkgjcbkmdpndhaaDoor

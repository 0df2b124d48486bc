/-
  Which orders are settled, by walking the program's text (a map that the call makes); conditions: the sagas and the keys lie in memory.
-/
import Derived.Test.YtlfphfklcifgpaaDoorSettledR
import Derived.Maps.OwnOps
namespace Go.Proofs.YtlfphfklcifgpaaDoor
open Go.RowKit Go.Own Go.Maps

theorem kLaw : Keyed Tryd.prog 3 := int_keyed Tryd.underlying3
theorem kZero (w : World) : (zeroValue 3).run Tryd.prog w = .ok (.int .i64 0) w := by kernel_rfl
theorem wf64 {n : Int} (h0 : -9223372036854775808 ≤ n) (h1 : n ≤ 9223372036854775807) : (Lit.int .i64 n).wf = true := by
  simp only [Lit.wf, IntKind.min, IntKind.max, IntKind.signed, IntKind.bits, Bool.and_eq_true, decide_eq_true_eq, if_true]
  omega
/-- How often each number came. -/
structure CountM (D : DataW Unit) (ks : List Int) : Prop where
  map : IsMap D
  at_ : ∀ x : Int, ∃ c : Int, D.atKey (.int .i64 x) (.lit (.int .i64 0)) = .lit (.int .i64 c) ∧ 0 ≤ c ∧ c ≤ ks.length ∧ (c = 0 ↔ x ∉ ks)
theorem CountM.start : CountM (.map []) [] := ⟨⟨[], rfl⟩, fun x => ⟨0, rfl, by omega, by simp, by simp⟩⟩
theorem CountM.val {D : DataW Unit} {ks : List Int} (h : CountM D ks) {x c : Int} (hc : D.atKey (.int .i64 x) (.lit (.int .i64 0)) = .lit (.int .i64 c)) : 0 ≤ c ∧ c ≤ ks.length ∧ (c = 0 ↔ x ∉ ks) := by
  obtain ⟨c', h1, h2⟩ := h.at_ x
  rw [hc] at h1
  simp only [DataW.lit.injEq, Lit.int.injEq, true_and] at h1
  subst h1
  exact h2
theorem CountM.step {D : DataW Unit} {ks : List Int} (h : CountM D ks) {k c : Int} (hc : D.atKey (.int .i64 k) (.lit (.int .i64 0)) = .lit (.int .i64 c)) : CountM (D.put (.int .i64 k) (.lit (.int .i64 (c + 1)))) (ks ++ [k]) := by
  obtain ⟨h1, h2, h3⟩ := h.val hc
  refine ⟨?_, fun x => ?_⟩
  · obtain ⟨es, rfl⟩ := h.map
    exact ⟨_, rfl⟩
  · by_cases e : x = k
    · subst e
      exact ⟨c + 1, atKey_put_same h.map (show WideAt.IsKeyLit (.int .i64 x) from trivial) _ _, by omega, by simp; omega, by simp; omega⟩
    · obtain ⟨c', g0, g1, g2, g3⟩ := h.at_ x
      refine ⟨c', (atKey_put_other (by simpa using e) _ _).trans g0, g1, by simp; omega, ?_⟩
      rw [g3]; simp [e]
theorem ownsMap_below {H : Type} {P : Program} {k : TypeId} {R : Value → Option (DataW H × List MemPlace)} {w w' : World} {B n N : Nat} {D : DataW H} (h : w.ownsMap P k R B n D) (hb : Below N w w') (hN : B < N) : w'.ownsMap P k R B n D := by
  obtain ⟨es, clock, hh, F, hs, hD⟩ := h
  exact ⟨es, clock, (hb.block B hN).trans hh, F, hs, hD⟩

theorem cz (c : Int) : (c == 0) = true ∨ (c == 0) = false := by cases (c == 0) <;> simp
theorem any_of {K : List (Int × Int)} {x : Int} (h : x ∉ K.map (·.1)) : (K.any fun k => decide (k.1 = x)) = false := by
  rw [List.any_eq_false]
  intro k hk
  simp only [decide_eq_true_eq]
  exact fun e => h (e ▸ List.mem_map_of_mem hk)
theorem any_no {K : List (Int × Int)} {x : Int} (h : (K.any fun k => decide (k.1 = x)) = false) : x ∉ K.map (·.1) := by
  intro hm
  obtain ⟨k, hk, rfl⟩ := List.mem_map.1 hm
  rw [List.any_eq_false] at h
  have := h k hk
  simp at this

set_option maxHeartbeats 8000000 in
set_option maxRecDepth 100000 in
theorem settled_any {w : World} {v u : Value} {L : List (OrdS × D6)} {K : List (Int × Int)} (h : IsL w 12 v (L.map sagaL)) (h' : IsL w 2 u (K.map keyL)) (hl : L.length ≤ 1000) (hl' : K.length ≤ 1000)
    (hwK : ∀ k ∈ K, (Lit.int .i64 k.1).wf = true) (hwL : ∀ x ∈ L, (Lit.int .i64 x.1.id).wf = true) :
    Calls Tryd.prog 28 #[v, u] w (Nums w (settledOf L K)) := by
  obtain ⟨sp, sc, rfl, _⟩ := h.slice
  obtain ⟨sp', sc', rfl, _⟩ := h'.slice
  have HH := Lib.hid h
  have HH' := Lib.hid h'
  have HwK := Lib.hid hwK
  have HwL := Lib.hid hwL
  clear h h' hwK hwL
  simp only [List.length_map] at HH HH' ⊢
  have hmx : (L.length : Int) ≤ 1000 := by omega
  have hmx' : (K.length : Int) ≤ 1000 := by omega
  have hmm := @run_makeMap Tryd.prog
  go_enter Tryd.func28, Tryd.ntmps28
  go_wp2_with fail
  go_loopw [15] (fun k wr => ∃ (j : Nat) (D : DataW Unit), j ≤ K.length ∧ k = .int .i64 (j : Int) ∧ wr.ownsMap Tryd.prog 3 (plainElem Tryd.prog 3) w.heap.size j D ∧ CountM D ((K.take j).map (·.1)) ∧ Below w.heap.size w wr) (fun k _ => (K.length - (intOf k).toNat))
  case atStart => exact ⟨0, _, by omega, rfl, World.ownsMap_made _ _ _ _, by simpa using CountM.start, (by with_reducible (repeat (first | assumption | exact Below.refl _ _ | refine Below.drew ?_ | refine below_drewN ?_ _ | refine Below.alloc ?_ (by first | (simp; done) | omega | (simp; omega)) _ | refine Below.setCell ?_ (by first | (simp; done) | omega | (simp; omega)) _ | refine Below.trans ?_ (Below.mono (by assumption) (by first | (simp; done) | omega | (simp; omega))))))⟩
  case round =>
    obtain ⟨j, D, hj, rfl, hown, hcnt, hbw⟩ := hrel
    have hzr := hbw.size
    by_cases hjl : j = K.length
    · subst hjl
      rw [List.take_of_length_le (Nat.le_refl _)] at hcnt
      have HO := Lib.hid hown
      have HC := Lib.hid hcnt
      have hBl : w.heap.size < wr.heap.size := hown.lt
      clear hown hcnt
      go_wp2_with fail
      obtain ⟨w1, hw1⟩ : ∃ w1, w1 = wr := ⟨_, rfl⟩
      subst hw1
      go_loopw [8, 27] (fun v k wx => ∃ j : Nat, j ≤ L.length ∧ k = .int .i64 (j : Int) ∧ wx.ownsRow w1.heap.size 3 1 v (settledOf (L.take j) K).length ((settledOf (L.take j) K).map intL).flatten ∧ Below w1.heap.size w1 wx) (fun _ k _ => (L.length - (intOf k).toNat))
      case atStart => exact ⟨0, by omega, rfl, World.ownsRow_nil _ _ _ _, Below.refl _ _⟩
      case round =>
        obtain ⟨j, hj2, rfl, hown, hbx⟩ := hrel
        have hzx := hbx.size
        by_cases hjl : j = L.length
        · have HR := Lib.hid (show IsL wr 1 _ ((settledOf L K).map intL) from isL_of_owns (fun l hl => by obtain ⟨x, _, rfl⟩ := List.mem_map.1 hl; rfl) (by rw [List.take_of_length_le (by omega)] at hown; simpa using hown))
          have HFr := Lib.hid (fresh_of_owns hown hzr)
          subst hjl
          obtain ⟨g, c, rfl⟩ := sliceL_of_owns hown
          clear hown
          go_wp2_with fail
          go_ret
          exact ⟨_, rfl, HR.out, hbw.trans (hbx.mono hzr), HFr.out⟩
        · have hj1 : j < L.length := by omega
          have hj3 : (j : Int) < (L.length : Int) := by omega
          obtain ⟨a, cap, hv, hlen, hcap, hR⟩ := HH.out.at (by simp; omega)
          simp only [List.length_map] at hv hlen
          obtain ⟨rfl, -, rfl⟩ : sp = some a ∧ L.length = L.length ∧ sc = cap := by simpa using hv
          have hRr := (hR.below hbw hR.lt).below hbx (by have := hR.lt; omega)
          have hb0 : (a.add (j * 12)).block < wr.heap.size := hRr.lt' _
          have HS := Lib.hid (settledOf_step (K := K) hj1)
          have HW := Lib.hid (HwL.out L[j] (List.getElem_mem hj1))
          have hgj : (L.map sagaL)[j]'(by simpa using hj1) = sagaL L[j] := by simp
          have q0 := hRr.c0 j (by simpa using hj1) _ (by rw [hgj]; rfl)
          have q1 := hRr.cj j (by simpa using hj1) 0 _ (by rw [hgj]; rfl)
          have q2 := hRr.cj j (by simpa using hj1) 1 _ (by rw [hgj]; rfl)
          have q3 := hRr.cj j (by simpa using hj1) 2 _ (by rw [hgj]; rfl)
          have q4 := hRr.cj j (by simpa using hj1) 3 _ (by rw [hgj]; rfl)
          have q5 := hRr.cj j (by simpa using hj1) 4 _ (by rw [hgj]; rfl)
          have q6 := hRr.cj j (by simpa using hj1) 5 _ (by rw [hgj]; rfl)
          have q7 := hRr.cj j (by simpa using hj1) 6 _ (by rw [hgj]; rfl)
          have q8 := hRr.cj j (by simpa using hj1) 7 _ (by rw [hgj]; rfl)
          have q9 := hRr.cj j (by simpa using hj1) 8 _ (by rw [hgj]; rfl)
          have q10 := hRr.cj j (by simpa using hj1) 9 _ (by rw [hgj]; rfl)
          have q11 := hRr.cj j (by simpa using hj1) 10 _ (by rw [hgj]; rfl)
          clear hRr hR hv hgj
          generalize L[j] = os at *
          obtain ⟨o, s⟩ := os
          simp only [Nat.zero_add, Nat.reduceAdd] at q0 q1 q2 q3 q4 q5 q6 q7 q8 q9 q10 q11
          have S := fun w => state_any o s w
          simp only [sagaV] at S
          obtain ⟨gg, gc, rfl⟩ := sliceL_of_owns hown
          have hown0 := Lib.hid hown
          have hpl : (settledOf (L.take j) K).length ≤ 1000 := Nat.le_trans (settledOf_len _ _) (by simp; omega)
          clear hown
          have HA := Lib.hid (show setAdd (o, s) K = if (decide (stateOf s < 2) || K.any fun k => decide (k.1 = o.id)) = false then [o.id] else [] from rfl)
          have hst := stateOf_range s
          generalize stateOf s = n at *
          by_cases hn2 : n < 2
          · have HS := Lib.hid (HS.out.trans (show _ = settledOf (L.take j) K by rw [HA.out]; simp [hn2]))
            have hn01 : n = 0 ∨ n = 1 := by omega
            clear hn2 hst
            rcases hn01 with rfl | rfl
            all_goals
              go_wp2_with (go_at_call 32; go_must ((with_reducible refine (S _).mono ?_); rintro e w3 ⟨rfl, hb⟩; have hz := hb.size; (try simp at hz); obtain ⟨hc, hf⟩ := bcell hb; have hzA : wr.heap.size < w3.heap.size := (by omega); have HB3 := Lib.hid (show Below wr.heap.size wr w3 from (by with_reducible (repeat (first | assumption | exact Below.refl _ _ | refine Below.drew ?_ | refine below_drewN ?_ _ | refine Below.alloc ?_ (by first | (simp; done) | omega | (simp; omega)) _ | refine Below.setCell ?_ (by first | (simp; done) | omega | (simp; omega)) _ | refine Below.trans ?_ (Below.mono (by assumption) (by first | (simp; done) | omega | (simp; omega))))))); clear hb q0 q1 q2 q3 q4 q5 q6 q7 q8 q9 q10 q11))
              go_roundw
              case rel => exact ⟨j + 1, by omega, by go_num, by rw [HS.out]; exact ownsL_below hown0.out HB3.out (Nat.le_refl _), hbx.trans (HB3.out.mono hzx)⟩
              case measure => simp [intOf] <;> omega
          · have hn0 : (n != 0) = true := by simp; omega
            have hn1 : (n != 1) = true := by simp; omega
            have HQ := Lib.hid (fun c => @CountM.val _ _ HC.out o.id c)
            have HA := Lib.hid (show setAdd (o, s) K = if (K.any fun k => decide (k.1 = o.id)) = false then [o.id] else [] by rw [HA.out, decide_eq_false hn2, Bool.false_or])
            clear hn2 hst
            go_wp2_with (first
              | (go_at_call 32; go_must ((with_reducible refine (S _).mono ?_); rintro e w3 ⟨rfl, hb⟩; have hz := hb.size; (try simp at hz); obtain ⟨hc, hf⟩ := bcell hb; have hzA : wr.heap.size < w3.heap.size := (by omega); have HB3 := Lib.hid (show Below wr.heap.size wr w3 from (by with_reducible (repeat (first | assumption | exact Below.refl _ _ | refine Below.drew ?_ | refine below_drewN ?_ _ | refine Below.alloc ?_ (by first | (simp; done) | omega | (simp; omega)) _ | refine Below.setCell ?_ (by first | (simp; done) | omega | (simp; omega)) _ | refine Below.trans ?_ (Below.mono (by assumption) (by first | (simp; done) | omega | (simp; omega))))))); obtain ⟨c, hrun, hat, hwc⟩ := (ownsMap_below (ownsMap_below HO.out hbx hBl) HB3.out (Nat.lt_of_lt_of_le hBl hzx)).lookup_int kLaw Tryd.underlying99 Tryd.underlying3 (kZero _) (keyOf_int_mk Tryd.underlying3 HW.out); have HCC := Lib.hid (HQ.out c hat).2.2; clear hb q0 q1 q2 q3 q4 q5 q6 q7 q8 q9 q10 q11 hat hwc; rcases cz c with hcb | hcb))
              | (at_builtin; go_must (refine wpList_push rfl rfl Tryd.underlying68 infoIntL rfl (by decide) (ownsL_below hown0.out HB3.out (Nat.le_refl _)) (hbx.trans (HB3.out.mono hzx)) (Nat.le_trans hzx HB3.out.size) rfl rfl rfl rfl ?c1 ?c2 ?_)))
            case c1 => unfold maxLen; omega
            case c2 => omega
            all_goals first
              | (intro v' w' hown' hb' hnn
                 have hc0 : c = 0 := by simpa using hcb
                 have HS := Lib.hid (HS.out.trans (show _ = settledOf (L.take j) K ++ [o.id] by rw [HA.out, if_pos]; exact any_of (HCC.out.1 hc0)))
                 go_wp2_with fail
                 go_roundw
                 case rel => exact ⟨j + 1, by omega, by go_num, by rw [HS.out]; simpa [intL] using hown', hb'⟩
                 case measure => simp [intOf] <;> omega)
              | (have hc0 : ¬ c = 0 := by simpa using hcb
                 have HS := Lib.hid (HS.out.trans (show _ = settledOf (L.take j) K by rw [HA.out, if_neg, List.append_nil]; exact fun h => hc0 (HCC.out.2 (any_no h))))
                 go_roundw
                 case rel => exact ⟨j + 1, by omega, by go_num, by rw [HS.out]; exact ownsL_below hown0.out HB3.out (Nat.le_refl _), hbx.trans (HB3.out.mono hzx)⟩
                 case measure => simp [intOf] <;> omega)
    · have hj1 : j < K.length := by omega
      have hj2 : (j : Int) < (K.length : Int) := by omega
      obtain ⟨a', cap', hv', hlen', hcap', hR'⟩ := HH'.out.at (by simp; omega)
      simp only [List.length_map] at hv' hlen'
      obtain ⟨rfl, -, rfl⟩ : sp' = some a' ∧ K.length = K.length ∧ sc' = cap' := by simpa using hv'
      have hRr' := hR'.below hbw hR'.lt
      have hb3 : (a'.add (j * 2)).block < wr.heap.size := hRr'.lt' _
      have hgj : (K.map keyL)[j]'(by simpa using hj1) = keyL K[j] := by simp
      have t0 := hRr'.c0 j (by simpa using hj1) _ (by rw [hgj]; rfl)
      have t1 := hRr'.cj j (by simpa using hj1) 0 _ (by rw [hgj]; rfl)
      have HW := Lib.hid (HwK.out K[j] (List.getElem_mem hj1))
      have HS := Lib.hid (show (K.take (j + 1)).map (·.1) = (K.take j).map (·.1) ++ [K[j].1] by rw [List.take_succ_eq_append_getElem hj1, List.map_append]; rfl)
      clear hRr' hR' hv' hgj
      generalize K[j] = kk at *
      obtain ⟨ko, kd⟩ := kk
      simp only [Nat.zero_add] at t0 t1
      have HC := Lib.hid hcnt
      have hlk : ((K.take j).map (·.1)).length ≤ 1000 := by simp; omega
      have hkey := keyOf_int_mk (P := Tryd.prog) Tryd.underlying3 HW.out
      clear hcnt
      go_wp2_with (first
        | (at_lookup; go_must (refine wpList_lookup_own_int _ rfl _ _ 99 rfl 3 3 .i64 kLaw Tryd.underlying99 Tryd.underlying3 (kZero _) w.heap.size j _ rfl (hown.alloc _) _ _ rfl hkey ?_; intro c hat hwc; have hcv := HC.out.val hat; have hc0 : 0 ≤ c := hcv.1; have hc1 : c ≤ 1000 := (by have := hcv.2.1; omega); have HN := Lib.hid (HC.out.step hat); clear hat hwc hcv))
        | (at_mapUpdate; go_must (refine wpList_mapUpdate_own _ rfl _ _ _ 99 rfl 3 3 kLaw Tryd.underlying99 _ w.heap.size j _ rfl (hown.alloc _) (by unfold maxLen; omega) _ _ _ rfl rfl hkey _ [] (plainElem_int Tryd.underlying3 (wf64 (by omega) (by omega))) ?_; intro w1 hown1 hgrow1)))
      go_roundw
      case rel => exact ⟨j + 1, _, by omega, by go_num, hown1, by rw [HS.out]; exact HN.out, (hbw.alloc hzr _).grown hgrow1 (by simp; omega) (fun j hj => by cases hj; exact Nat.le_refl _)⟩
      case measure => simp [intOf] <;> omega
end Go.Proofs.YtlfphfklcifgpaaDoor

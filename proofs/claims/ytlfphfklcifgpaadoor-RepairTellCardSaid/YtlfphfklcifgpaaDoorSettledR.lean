/-
  Which orders are settled, by walking the document's text; conditions: the sagas and the keys lie in memory.
-/
import Derived.Test.YtlfphfklcifgpaaDoorPlan
import Derived.Test.YtlfphfklcifgpaaDoorSagaB
namespace Go.Proofs.YtlfphfklcifgpaaDoor
open Go.RowKit Go.Own

def intL (n : Int) : List Value := [.int .i64 n]
def openOf (x : OrdS × D6) (K : List (Int × Int)) : Bool := decide (stateOf x.2 < 2) || K.any fun k => decide (k.1 = x.1.id)
def setAdd (x : OrdS × D6) (K : List (Int × Int)) : List Int := if openOf x K = false then [x.1.id] else []
def settledOf (L : List (OrdS × D6)) (K : List (Int × Int)) : List Int := (L.map fun x => setAdd x K).flatten
theorem settledOf_step {L : List (OrdS × D6)} {K : List (Int × Int)} {j : Nat} (h : j < L.length) : settledOf (L.take (j + 1)) K = settledOf (L.take j) K ++ setAdd L[j] K := by
  unfold settledOf
  rw [List.take_succ_eq_append_getElem h, List.map_append, List.flatten_append]
  simp
theorem settledOf_len (L : List (OrdS × D6)) (K : List (Int × Int)) : (settledOf L K).length ≤ L.length := by
  induction L with
  | nil => simp [settledOf]
  | cons x L ih =>
    unfold settledOf at ih ⊢
    rw [List.map_cons, List.flatten_cons, List.length_append, List.length_cons]
    have : (setAdd x K).length ≤ 1 := by unfold setAdd; split <;> simp
    omega
theorem stateOf_range (s : D6) : 0 ≤ stateOf s ∧ stateOf s ≤ 4 := by
  unfold stateOf
  (repeat' split) <;> omega
theorem infoIntL : (Tryd.prog.info? 3).map (fun i => (i.zero, i.size, i.bytes)) = some (some (.int .i64 0), 1, 8) := by kernel_rfl
/-- A call that hands back numbers, in memory of its own. -/
def Nums (w : World) (K : List Int) (e : Ending) (w' : World) : Prop := ∃ v, e = .returned v ∧ IsL w' 1 v (K.map intL) ∧ Below w.heap.size w w' ∧ Fresh w v

set_option maxHeartbeats 8000000 in
set_option maxRecDepth 100000 in
theorem refSettled_any {w : World} {v u : Value} {L : List (OrdS × D6)} {K : List (Int × Int)} (h : IsL w 12 v (L.map sagaL)) (h' : IsL w 2 u (K.map keyL)) (hl : L.length ≤ 1000) (hl' : K.length ≤ 1000) :
    Calls Tryd.prog 29 #[v, u] w (Nums w (settledOf L K)) := by
  obtain ⟨sp, sc, rfl, _⟩ := h.slice
  obtain ⟨sp', sc', rfl, _⟩ := h'.slice
  have HH := Lib.hid h
  have HH' := Lib.hid h'
  clear h h'
  simp only [List.length_map] at HH HH' ⊢
  have hmx : (L.length : Int) ≤ 1000 := by omega
  have hmx' : (K.length : Int) ≤ 1000 := by omega
  go_enter Tryd.func29, Tryd.ntmps29
  go_wp2_with fail
  go_loopw [5, 6] (fun v k wr => ∃ j : Nat, j ≤ L.length ∧ k = .int .i64 (j : Int) ∧ wr.ownsRow w.heap.size 3 1 v (settledOf (L.take j) K).length ((settledOf (L.take j) K).map intL).flatten ∧ Below w.heap.size w wr) (fun _ k _ => (L.length - (intOf k).toNat))
  case atStart => exact ⟨0, by omega, rfl, World.ownsRow_nil _ _ _ _, (by with_reducible (repeat (first | assumption | exact Below.refl _ _ | refine Below.drew ?_ | refine below_drewN ?_ _ | refine Below.alloc ?_ (by first | (simp; done) | omega | (simp; omega)) _ | refine Below.setCell ?_ (by first | (simp; done) | omega | (simp; omega)) _ | refine Below.trans ?_ (Below.mono (by assumption) (by first | (simp; done) | omega | (simp; omega))))))⟩
  case round =>
    obtain ⟨j, hj, rfl, hown, hbw⟩ := hrel
    have hzr := hbw.size
    by_cases hjl : j = L.length
    · have HR := Lib.hid (show IsL wr 1 _ ((settledOf L K).map intL) from isL_of_owns (fun l hl => by obtain ⟨x, _, rfl⟩ := List.mem_map.1 hl; rfl) (by rw [List.take_of_length_le (by omega)] at hown; simpa using hown))
      have HFr := Lib.hid (fresh_of_owns hown (Nat.le_refl _))
      subst hjl
      obtain ⟨g, c, rfl⟩ := sliceL_of_owns hown
      clear hown
      go_wp2_with fail
      go_ret
      exact ⟨_, rfl, HR.out, hbw, HFr.out⟩
    · have hj1 : j < L.length := by omega
      have hj2 : (j : Int) < (L.length : Int) := by omega
      obtain ⟨a, cap, hv, hlen, hcap, hR⟩ := HH.out.at (by simp; omega)
      simp only [List.length_map] at hv hlen
      obtain ⟨rfl, -, rfl⟩ : sp = some a ∧ L.length = L.length ∧ sc = cap := by simpa using hv
      have hRr := hR.below hbw hR.lt
      have hb0 : (a.add (j * 12)).block < wr.heap.size := hRr.lt' _
      have HS := Lib.hid (settledOf_step (K := K) hj1)
      have hgj : (L.map sagaL)[j]'(by simpa using hj1) = sagaL L[j] := by simp
      have q0 := hRr.c0 j (by simpa using hj1) _ (by rw [hgj]; rfl)
      have q1 := hRr.cj j (by simpa using hj1) 0 _ (by rw [hgj]; rfl)
      have q2 := hRr.cj j (by simpa using hj1) 1 _ (by rw [hgj]; rfl)
      have q3 := hRr.cj j (by simpa using hj1) 2 _ (by rw [hgj]; rfl)
      have q4 := hRr.cj j (by simpa using hj1) 3 _ (by rw [hgj]; rfl)
      have q5 := hRr.cj j (by simpa using hj1) 4 _ (by rw [hgj]; rfl)
      have q6 := hRr.cj j (by simpa using hj1) 5 _ (by rw [hgj]; rfl)
      have q7 := hRr.cj j (by simpa using hj1) 6 _ (by rw [hgj]; rfl)
      have q8 := hRr.cj j (by simpa using hj1) 7 _ (by rw [hgj]; rfl)
      have q9 := hRr.cj j (by simpa using hj1) 8 _ (by rw [hgj]; rfl)
      have q10 := hRr.cj j (by simpa using hj1) 9 _ (by rw [hgj]; rfl)
      have q11 := hRr.cj j (by simpa using hj1) 10 _ (by rw [hgj]; rfl)
      clear hRr hR hv hgj
      generalize L[j] = os at *
      obtain ⟨o, s⟩ := os
      simp only [Nat.zero_add, Nat.reduceAdd] at q0 q1 q2 q3 q4 q5 q6 q7 q8 q9 q10 q11
      have S := fun w => refState_any o s w
      simp only [sagaV] at S
      obtain ⟨gg, gc, rfl⟩ := sliceL_of_owns hown
      have hown0 := Lib.hid hown
      have hpl : (settledOf (L.take j) K).length ≤ 1000 := Nat.le_trans (settledOf_len _ _) (by simp; omega)
      clear hown
      have HC := Lib.hid (show setAdd (o, s) K = if (decide (stateOf s < 2) || K.any fun k => decide (k.1 = o.id)) = false then [o.id] else [] from rfl)
      generalize stateOf s = n at *
      go_wp2_with (go_at_call 55; go_must ((with_reducible refine (S _).mono ?_); rintro e w1 ⟨rfl, hb⟩; have hz := hb.size; have hcA := bcellL hb; have p0 := (hcA (a.add (j * 12)) hb0).trans q0; have hb1 : (a.add (j * 12)).block < w1.heap.size := (by omega); have HB1 := Lib.hid hb; clear hb hcA q0 q1 q2 q3 q4 q5 q6 q7 q8 q9 q10 q11))
      go_loopw [7, 8] (fun b k wx => ∃ i : Nat, i ≤ K.length ∧ k = .int .i64 (i : Int) ∧ b = .bool (decide (n < 2) || (K.take i).any fun k => decide (k.1 = o.id)) ∧ Below w1.heap.size w1 wx) (fun _ k _ => (K.length - (intOf k).toNat))
      case atStart => exact ⟨0, by omega, rfl, by simp, Below.refl _ _⟩
      case round =>
        obtain ⟨i, hi, rfl, rfl, hbx⟩ := hrel
        have hzx := hbx.size
        have hcx := bcellL hbx
        have r0 := (hcx (a.add (j * 12)) hb1).trans p0
        have hb2 : (a.add (j * 12)).block < wr.heap.size := by omega
        have HB2 := Lib.hid (HB1.out.trans (hbx.mono (by omega)))
        by_cases hil : i = K.length
        · have HC := Lib.hid (show setAdd (o, s) K = if (decide (n < 2) || (K.take i).any fun k => decide (k.1 = o.id)) = false then [o.id] else [] by rw [HC.out, List.take_of_length_le (by omega)])
          subst hil
          generalize (decide (n < 2) || (K.take K.length).any fun k => decide (k.1 = o.id)) = b at *
          cases b
          · have HS := Lib.hid (HS.out.trans (show _ = settledOf (L.take j) K ++ [o.id] by rw [HC.out]; rfl))
            go_wp2_with (at_builtin; go_must (refine wpList_push rfl rfl Tryd.underlying68 infoIntL rfl (by decide) (ownsL_below hown0.out HB2.out (Nat.le_refl _)) (hbw.trans (HB2.out.mono hzr)) (Nat.le_trans hzr HB2.out.size) rfl rfl rfl rfl ?c1 ?c2 ?_))
            case c1 => unfold maxLen; omega
            case c2 => omega
            intro v' w' hown' hb' hnn
            go_wp2_with fail
            go_roundw
            case rel => exact ⟨j + 1, by omega, by go_num, by rw [HS.out]; simpa [intL] using hown', hb'⟩
            case measure => simp [intOf] <;> omega
          · have HS := Lib.hid (HS.out.trans (show _ = settledOf (L.take j) K by rw [HC.out]; simp))
            go_wp2_with fail
            go_roundw
            case rel => exact ⟨j + 1, by omega, by go_num, by rw [HS.out]; exact ownsL_below hown0.out HB2.out (Nat.le_refl _), hbw.trans (HB2.out.mono hzr)⟩
            case measure => simp [intOf] <;> omega
        · have hi1 : i < K.length := by omega
          have hi2 : (i : Int) < (K.length : Int) := by omega
          have HT := Lib.hid (show (K.take (i + 1)).any (fun k => decide (k.1 = o.id)) = ((K.take i).any (fun k => decide (k.1 = o.id)) || decide (K[i].1 = o.id)) by
            rw [List.take_succ_eq_append_getElem hi1, List.any_append]; simp)
          obtain ⟨a', cap', hv', hlen', hcap', hR'⟩ := HH'.out.at (by simp; omega)
          simp only [List.length_map] at hv' hlen'
          obtain ⟨rfl, -, rfl⟩ : sp' = some a' ∧ K.length = K.length ∧ sc' = cap' := by simpa using hv'
          have hRr' := (hR'.below (hbw.trans (HB1.out.mono hzr)) hR'.lt).below hbx (by have := hR'.lt; have := HB1.out.size; omega)
          have hb3 : (a'.add (i * 2)).block < wr.heap.size := hRr'.lt' _
          have t0 := hRr'.c0 i (by simpa using hi1) _ (by rw [show (K.map keyL)[i]'(by simpa using hi1) = keyL K[i] by simp]; rfl)
          clear hRr' hR' hv'
          generalize K[i] = kk at *
          obtain ⟨ko, kd⟩ := kk
          simp only at t0 HT
          generalize hy : (decide (n < 2) || (K.take i).any fun k => decide (k.1 = o.id)) = b at *
          have HY := Lib.hid hy
          clear hy
          cases b
          · by_cases he : ko = o.id
            · have heb : (ko == o.id) = true := by simpa using he
              have HZ := Lib.hid (show true = (decide (n < 2) || (K.take (i + 1)).any fun k => decide (k.1 = o.id)) by rw [HT.out, ← Bool.or_assoc, HY.out]; simp [he])
              clear he
              go_wp2_with fail
              refine region_later (by kernel_rfl) (by kernel_rfl) ?_
              repeat (first | go_big_quiet_step (fail) | quiet_step (fail))
              refine wpQuiet_nil ?_
              intro w1 hb
              obtain ⟨hc, hf⟩ := bcell hb
              go_wp2_with fail
              go_roundw
              case rel => exact ⟨i + 1, by omega, by go_num, by rw [← HZ.out], hbx.trans (hb.mono hzx)⟩
              case measure => simp [intOf] <;> omega
            · have heb : (ko == o.id) = false := by simpa using he
              have HZ := Lib.hid (show false = (decide (n < 2) || (K.take (i + 1)).any fun k => decide (k.1 = o.id)) by rw [HT.out, ← Bool.or_assoc, HY.out]; simp [he])
              clear he
              go_wp2_with fail
              refine region_later (by kernel_rfl) (by kernel_rfl) ?_
              repeat (first | go_big_quiet_step (fail) | quiet_step (fail))
              refine wpQuiet_nil ?_
              intro w1 hb
              obtain ⟨hc, hf⟩ := bcell hb
              go_wp2_with fail
              go_roundw
              case rel => exact ⟨i + 1, by omega, by go_num, by rw [← HZ.out], hbx.trans (hb.mono hzx)⟩
              case measure => simp [intOf] <;> omega
          · have HZ := Lib.hid (show true = (decide (n < 2) || (K.take (i + 1)).any fun k => decide (k.1 = o.id)) by rw [HT.out, ← Bool.or_assoc, HY.out]; simp)
            go_wp2_with fail
            refine region_later (by kernel_rfl) (by kernel_rfl) ?_
            repeat (first | go_big_quiet_step (fail) | quiet_step (fail))
            refine wpQuiet_nil ?_
            intro w1 hb
            obtain ⟨hc, hf⟩ := bcell hb
            go_wp2_with fail
            go_roundw
            case rel => exact ⟨i + 1, by omega, by go_num, by rw [← HZ.out], hbx.trans (hb.mono hzx)⟩
            case measure => simp [intOf] <;> omega
end Go.Proofs.YtlfphfklcifgpaaDoor

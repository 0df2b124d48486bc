/-
  What an order was charged, by walking both texts; conditions: the rows lie in memory, the table of parties as laid.
-/
import Derived.Test.YtkgjcbkmdpndhaaDoorRowSame
namespace Go.Proofs.YtkgjcbkmdpndhaaDoor
open Go.RowKit Go.Own

def contrib (r : RowS) (order : Int) : Int := if r.o = order then (if r.d = 1 then r.amt else if r.d = 4 then -r.amt else 0) else 0
def netTo (rs : List RowS) (order : Int) : Nat → Int
  | 0 => 0
  | j + 1 => netTo rs order j + match rs[j]? with
    | some r => contrib r order
    | none => 0
def netOf (rs : List RowS) (order : Int) : Int := if chkRows rs 0 = true then netTo rs order rs.length else 0
theorem chkRows_row {rs : List RowS} {p : Int} (h : chkRows rs p = true) {j : Nat} (hj : j < rs.length) : mayRow rs[j] p = true ∧ rs.length ≤ 400 := by
  simp only [chkRows, Bool.and_eq_true, decide_eq_true_eq, List.all_eq_true, List.mem_range] at h
  have := h.2 j hj
  simp only [rowOkAt, List.getElem?_eq_getElem hj, Bool.and_eq_true] at this
  exact ⟨this.1, h.1.2⟩
theorem payRow {r : RowS} (h : mayRow r 0 = true) : 0 ≤ r.amt ∧ r.amt ≤ 1099511627776 ∧ (r.d = 1 ∨ r.d = 4) := by
  simp only [mayRow, Bool.and_eq_true, decide_eq_true_eq] at h
  obtain ⟨⟨⟨_, hp⟩, _⟩, h2⟩ := h
  have hd : r.d = 1 ∨ r.d = 4 := by
    revert hp; unfold partyOf
    intro hp; omega
  refine ⟨?_, ?_, hd⟩ <;> split at h2 <;> simp at h2 <;> omega
theorem netTo_succ {rs : List RowS} {order : Int} {j : Nat} (hj : j < rs.length) : netTo rs order (j + 1) = netTo rs order j + contrib rs[j] order := by
  simp [netTo, List.getElem?_eq_getElem hj]
theorem netTo_bound {rs : List RowS} (order : Int) (h : chkRows rs 0 = true) : ∀ j, j ≤ rs.length → -(j * 1099511627776 : Int) ≤ netTo rs order j ∧ netTo rs order j ≤ j * 1099511627776
  | 0, _ => by simp [netTo]
  | j + 1, hj => by
    have ih := netTo_bound order h j (by omega)
    obtain ⟨a, b, _⟩ := payRow (chkRows_row h (show j < rs.length by omega)).1
    rw [netTo_succ (by omega)]
    unfold contrib
    split
    · split
      · constructor <;> push_cast <;> omega
      · split <;> (constructor <;> push_cast <;> omega)
    · constructor <;> push_cast <;> omega

set_option maxHeartbeats 2000000 in
set_option maxRecDepth 100000 in
theorem net_any {w : World} {v : Value} {rs : List RowS} (order : Int) (h : IsRows w v rs) (hL : Laid w) :
    Calls Tryd.prog 26 #[v, .int .i64 order] w fun e w' => e = .returned (.int .i64 (netOf rs order)) ∧ Below w.heap.size w w' := by
  have hC := fun w' (hb : Below w.heap.size w w') => rowsCheck_any 0 (h.below hb h.lt) (hL.below hb hL.1)
  cases hk : chkRows rs 0
  · obtain ⟨sp, sc, rfl, _⟩ := h.slice
    rw [hk] at hC
    have HQ := Lib.hid (show netOf rs order = 0 by simp [netOf, hk])
    clear hk h hL
    go_enter Tryd.func26, Tryd.ntmps26
    go_wp2_with (go_at_call 20; go_must ((with_reducible refine (hC _ (by with_reducible (repeat (first | assumption | exact Below.refl _ _ | refine Below.drew ?_ | refine below_drewN ?_ _ | refine Below.alloc ?_ (by first | (simp; done) | omega | (simp; omega)) _ | refine Below.setCell ?_ (by first | (simp; done) | omega | (simp; omega)) _ | refine Below.trans ?_ (Below.mono (by assumption) (by first | (simp; done) | omega | (simp; omega))))))).mono ?_); rintro e w1 ⟨rfl, hb⟩; obtain ⟨hc, hf⟩ := bcell hb; have hz := hb.size; (try simp at hz); (try have hzT := Nat.lt_of_succ_le hz)))
    go_ret
    exact ⟨by rw [HQ.out]; rfl, (by with_reducible (repeat (first | assumption | exact Below.refl _ _ | refine Below.drew ?_ | refine below_drewN ?_ _ | refine Below.alloc ?_ (by first | (simp; done) | omega | (simp; omega)) _ | refine Below.setCell ?_ (by first | (simp; done) | omega | (simp; omega)) _ | refine Below.trans ?_ (Below.mono (by assumption) (by first | (simp; done) | omega | (simp; omega))))))⟩
  · by_cases h0 : rs.length = 0
    · obtain rfl : rs = [] := by simpa using h0
      obtain ⟨sp, sc, rfl, _⟩ := h.slice
      simp only [List.length_nil] at hC ⊢
      rw [hk] at hC
      have HQ := Lib.hid (show netOf [] order = 0 by simp [netOf, netTo])
      clear hk h hL h0
      go_enter Tryd.func26, Tryd.ntmps26
      go_wp2_with (go_at_call 20; go_must ((with_reducible refine (hC _ (by with_reducible (repeat (first | assumption | exact Below.refl _ _ | refine Below.drew ?_ | refine below_drewN ?_ _ | refine Below.alloc ?_ (by first | (simp; done) | omega | (simp; omega)) _ | refine Below.setCell ?_ (by first | (simp; done) | omega | (simp; omega)) _ | refine Below.trans ?_ (Below.mono (by assumption) (by first | (simp; done) | omega | (simp; omega))))))).mono ?_); rintro e w1 ⟨rfl, hb⟩; obtain ⟨hc, hf⟩ := bcell hb; have hz := hb.size; (try simp at hz); (try have hzT := Nat.lt_of_succ_le hz)))
      go_loopw [5, 14] (fun n k wr => n = .int .i64 0 ∧ k = .int .i64 0 ∧ Below w.heap.size w wr) (fun n k _ => 0)
      case atStart => exact ⟨rfl, rfl, (by with_reducible (repeat (first | assumption | exact Below.refl _ _ | refine Below.drew ?_ | refine below_drewN ?_ _ | refine Below.alloc ?_ (by first | (simp; done) | omega | (simp; omega)) _ | refine Below.setCell ?_ (by first | (simp; done) | omega | (simp; omega)) _ | refine Below.trans ?_ (Below.mono (by assumption) (by first | (simp; done) | omega | (simp; omega))))))⟩
      case round =>
        obtain ⟨rfl, rfl, hbr⟩ := hrel
        have hzr := hbr.size
        go_wp2_with fail
        go_ret
        exact ⟨by rw [HQ.out]; rfl, (by with_reducible (repeat (first | assumption | exact Below.refl _ _ | refine Below.drew ?_ | refine below_drewN ?_ _ | refine Below.alloc ?_ (by first | (simp; done) | omega | (simp; omega)) _ | refine Below.setCell ?_ (by first | (simp; done) | omega | (simp; omega)) _ | refine Below.trans ?_ (Below.mono (by assumption) (by first | (simp; done) | omega | (simp; omega))))))⟩
    · obtain ⟨a, cap, rfl, hlen, hcap, hR⟩ := h.at (by omega)
      have HR := Lib.hid hR
      have hlt := hR.lt
      have hmx : (rs.length : Int) ≤ 9223372036854775807 := by unfold maxLen at hcap; omega
      have HQ := Lib.hid (show netOf rs order = netTo rs order rs.length by simp [netOf, hk])
      have HB := Lib.hid (netTo_bound order hk)
      have HP := Lib.hid (fun j hj => payRow (@chkRows_row rs 0 hk j hj).1)
      have hl4 : rs.length ≤ 400 := (chkRows_row hk (show 0 < rs.length by omega)).2
      rw [hk] at hC
      clear hk h hL hR
      go_enter Tryd.func26, Tryd.ntmps26
      go_wp2_with (go_at_call 20; go_must ((with_reducible refine (hC _ (by with_reducible (repeat (first | assumption | exact Below.refl _ _ | refine Below.drew ?_ | refine below_drewN ?_ _ | refine Below.alloc ?_ (by first | (simp; done) | omega | (simp; omega)) _ | refine Below.setCell ?_ (by first | (simp; done) | omega | (simp; omega)) _ | refine Below.trans ?_ (Below.mono (by assumption) (by first | (simp; done) | omega | (simp; omega))))))).mono ?_); rintro e w1 ⟨rfl, hb⟩; obtain ⟨hc, hf⟩ := bcell hb; have hz := hb.size; (try simp at hz); (try have hzT := Nat.lt_of_succ_le hz)))
      clear hC
      go_loopw [5, 14] (fun n k wr => ∃ j : Nat, j ≤ rs.length ∧ k = .int .i64 (j : Int) ∧ n = .int .i64 (netTo rs order j) ∧ Below w.heap.size w wr) (fun _ k _ => (rs.length - (intOf k).toNat))
      case atStart => exact ⟨0, by omega, rfl, rfl, (by with_reducible (repeat (first | assumption | exact Below.refl _ _ | refine Below.drew ?_ | refine below_drewN ?_ _ | refine Below.alloc ?_ (by first | (simp; done) | omega | (simp; omega)) _ | refine Below.setCell ?_ (by first | (simp; done) | omega | (simp; omega)) _ | refine Below.trans ?_ (Below.mono (by assumption) (by first | (simp; done) | omega | (simp; omega))))))⟩
      case round =>
        obtain ⟨j, hj, rfl, rfl, hbr⟩ := hrel
        have hzr := hbr.size
        clear hb hc hf hz
        by_cases hjl : j = rs.length
        · subst hjl
          go_wp2_with fail
          go_ret
          exact ⟨by rw [HQ.out]; rfl, (by with_reducible (repeat (first | assumption | exact Below.refl _ _ | refine Below.drew ?_ | refine below_drewN ?_ _ | refine Below.alloc ?_ (by first | (simp; done) | omega | (simp; omega)) _ | refine Below.setCell ?_ (by first | (simp; done) | omega | (simp; omega)) _ | refine Below.trans ?_ (Below.mono (by assumption) (by first | (simp; done) | omega | (simp; omega))))))⟩
        · have hj1 : j < rs.length := by omega
          have hj2 : (j : Int) < (rs.length : Int) := by omega
          have hRr := HR.out.below hbr hlt
          have c0 := hRr.c0 j hj1
          have c1 := hRr.c1 j hj1
          have c2 := hRr.c2 j hj1
          have c3 := hRr.c3 j hj1
          have c4 := hRr.c4 j hj1
          have hb0 : (a.add (j * 5)).block < wr.heap.size := hRr.lt' _
          obtain ⟨n1, n2⟩ := HB.out j hj
          obtain ⟨a1, a2, hd⟩ := HP.out j hj1
          have HS := Lib.hid (netTo_succ (order := order) hj1)
          clear hRr
          generalize rs[j] = r at *
          obtain ⟨o, d, code, amt, qty⟩ := r
          simp only at c0 c1 c2 c3 c4 a1 a2 hd
          have HN := Lib.hid (show netTo rs order j = netTo rs order j from rfl)
          generalize hn : netTo rs order j = n at *
          have HN2 := Lib.hid hn
          clear hn
          have e1 := fun w => run_key_eql o d order 1 w
          have e2 := fun w => run_key_eql o d order 4 w
          by_cases ho : o = order
          · subst ho
            have b1 : n + amt ≤ 9223372036854775807 := by omega
            have b2 : -9223372036854775808 ≤ n - amt := by omega
            have b3 : -9223372036854775808 ≤ n + amt := by omega
            have b4 : n - amt ≤ 9223372036854775807 := by omega
            rcases hd with rfl | rfl
            · simp only [decide_true, Bool.and_self] at e1
              have HS := Lib.hid (HS.out.trans (show _ = n + amt by simp [contrib]))
              go_wp2_with fail
              go_roundw
              case rel => exact ⟨j + 1, by omega, by go_num, by rw [HS.out], (by with_reducible (repeat (first | assumption | exact Below.refl _ _ | refine Below.drew ?_ | refine below_drewN ?_ _ | refine Below.alloc ?_ (by first | (simp; done) | omega | (simp; omega)) _ | refine Below.setCell ?_ (by first | (simp; done) | omega | (simp; omega)) _ | refine Below.trans ?_ (Below.mono (by assumption) (by first | (simp; done) | omega | (simp; omega))))))⟩
              case measure => simp [intOf] <;> omega
            · simp only [decide_true, Bool.and_self] at e2
              simp only [decide_true, Bool.true_and, show decide ((4 : Int) = 1) = false from rfl] at e1
              have HS := Lib.hid (HS.out.trans (show _ = n - amt by simp [contrib]; omega))
              go_wp2_with fail
              go_roundw
              case rel => exact ⟨j + 1, by omega, by go_num, by rw [HS.out], (by with_reducible (repeat (first | assumption | exact Below.refl _ _ | refine Below.drew ?_ | refine below_drewN ?_ _ | refine Below.alloc ?_ (by first | (simp; done) | omega | (simp; omega)) _ | refine Below.setCell ?_ (by first | (simp; done) | omega | (simp; omega)) _ | refine Below.trans ?_ (Below.mono (by assumption) (by first | (simp; done) | omega | (simp; omega))))))⟩
              case measure => simp [intOf] <;> omega
          · simp only [decide_eq_false ho, Bool.false_and] at e1 e2
            have HS := Lib.hid (HS.out.trans (show _ = n by simp [contrib, ho]))
            clear ho hd
            go_wp2_with fail
            go_roundw
            case rel => exact ⟨j + 1, by omega, by go_num, by rw [HS.out], (by with_reducible (repeat (first | assumption | exact Below.refl _ _ | refine Below.drew ?_ | refine below_drewN ?_ _ | refine Below.alloc ?_ (by first | (simp; done) | omega | (simp; omega)) _ | refine Below.setCell ?_ (by first | (simp; done) | omega | (simp; omega)) _ | refine Below.trans ?_ (Below.mono (by assumption) (by first | (simp; done) | omega | (simp; omega))))))⟩
            case measure => simp [intOf] <;> omega

set_option maxHeartbeats 2000000 in
set_option maxRecDepth 100000 in
theorem refNet_any {w : World} {v : Value} {rs : List RowS} (order : Int) (h : IsRows w v rs) :
    Calls Tryd.prog 27 #[v, .int .i64 order] w fun e w' => e = .returned (.int .i64 (netOf rs order)) ∧ Below w.heap.size w w' := by
  have hC := fun w' (hb : Below w.heap.size w w') => rowsRef_any 0 (h.below hb h.lt)
  by_cases h0 : rs.length = 0
  · obtain rfl : rs = [] := by simpa using h0
    obtain ⟨sp, sc, rfl, _⟩ := h.slice
    simp only [List.length_nil]
    have HQ := Lib.hid (show netOf [] order = 0 by simp [netOf, netTo])
    clear h h0 hC
    go_enter Tryd.func27, Tryd.ntmps27
    go_wp2_with fail
    go_loopw [5, 6] (fun n k wr => n = .int .i64 0 ∧ k = .int .i64 0 ∧ Below w.heap.size w wr) (fun n k _ => 0)
    case atStart => exact ⟨rfl, rfl, (by with_reducible (repeat (first | assumption | exact Below.refl _ _ | refine Below.drew ?_ | refine below_drewN ?_ _ | refine Below.alloc ?_ (by first | (simp; done) | omega | (simp; omega)) _ | refine Below.setCell ?_ (by first | (simp; done) | omega | (simp; omega)) _ | refine Below.trans ?_ (Below.mono (by assumption) (by first | (simp; done) | omega | (simp; omega))))))⟩
    case round =>
      obtain ⟨rfl, rfl, hbr⟩ := hrel
      go_wp2_with fail
      go_ret
      exact ⟨by rw [HQ.out]; rfl, (by with_reducible (repeat (first | assumption | exact Below.refl _ _ | refine Below.drew ?_ | refine below_drewN ?_ _ | refine Below.alloc ?_ (by first | (simp; done) | omega | (simp; omega)) _ | refine Below.setCell ?_ (by first | (simp; done) | omega | (simp; omega)) _ | refine Below.trans ?_ (Below.mono (by assumption) (by first | (simp; done) | omega | (simp; omega))))))⟩
  · obtain ⟨a, cap, rfl, hlen, hcap, hR⟩ := h.at (by omega)
    have HR := Lib.hid hR
    have hlt := hR.lt
    have hmx : (rs.length : Int) ≤ 9223372036854775807 := by unfold maxLen at hcap; omega
    have hpl : 0 < (rs.length : Int) := by omega
    have hpl2 : 0 < rs.length := by omega
    cases hk : chkRows rs 0
    · rw [hk] at hC
      have HQ := Lib.hid (show netOf rs order = 0 by simp [netOf, hk])
      clear hk h hR
      go_enter Tryd.func27, Tryd.ntmps27
      go_wp2_with fail
      go_loopw [5, 6] (fun n k wr => n = .int .i64 0 ∧ k = .int .i64 0 ∧ Below w.heap.size w wr) (fun n k _ => 0)
      case atStart => exact ⟨rfl, rfl, (by with_reducible (repeat (first | assumption | exact Below.refl _ _ | refine Below.drew ?_ | refine below_drewN ?_ _ | refine Below.alloc ?_ (by first | (simp; done) | omega | (simp; omega)) _ | refine Below.setCell ?_ (by first | (simp; done) | omega | (simp; omega)) _ | refine Below.trans ?_ (Below.mono (by assumption) (by first | (simp; done) | omega | (simp; omega))))))⟩
      case round =>
        obtain ⟨rfl, rfl, hbr⟩ := hrel
        have hzr := hbr.size
        go_wp2_with (go_at_call 21; go_must ((with_reducible refine (hC _ (by with_reducible (repeat (first | assumption | exact Below.refl _ _ | refine Below.drew ?_ | refine below_drewN ?_ _ | refine Below.alloc ?_ (by first | (simp; done) | omega | (simp; omega)) _ | refine Below.setCell ?_ (by first | (simp; done) | omega | (simp; omega)) _ | refine Below.trans ?_ (Below.mono (by assumption) (by first | (simp; done) | omega | (simp; omega))))))).mono ?_); rintro e w1 ⟨rfl, hb⟩; obtain ⟨hc, hf⟩ := bcell hb; have hz := hb.size; (try simp at hz); (try have hzT := Nat.lt_of_succ_le hz)))
        go_ret
        exact ⟨by rw [HQ.out]; rfl, (by with_reducible (repeat (first | assumption | exact Below.refl _ _ | refine Below.drew ?_ | refine below_drewN ?_ _ | refine Below.alloc ?_ (by first | (simp; done) | omega | (simp; omega)) _ | refine Below.setCell ?_ (by first | (simp; done) | omega | (simp; omega)) _ | refine Below.trans ?_ (Below.mono (by assumption) (by first | (simp; done) | omega | (simp; omega))))))⟩
    · have HQ := Lib.hid (show netOf rs order = netTo rs order rs.length by simp [netOf, hk])
      have HB := Lib.hid (netTo_bound order hk)
      have HP := Lib.hid (fun j hj => payRow (@chkRows_row rs 0 hk j hj).1)
      have hl4 : rs.length ≤ 400 := (chkRows_row hk (show 0 < rs.length by omega)).2
      rw [hk] at hC
      clear hk h hR
      go_enter Tryd.func27, Tryd.ntmps27
      go_wp2_with fail
      go_loopw [5, 6] (fun n k wr => ∃ j : Nat, j ≤ rs.length ∧ k = .int .i64 (j : Int) ∧ n = .int .i64 (netTo rs order j) ∧ Below w.heap.size w wr) (fun _ k _ => (rs.length - (intOf k).toNat))
      case atStart => exact ⟨0, by omega, rfl, rfl, (by with_reducible (repeat (first | assumption | exact Below.refl _ _ | refine Below.drew ?_ | refine below_drewN ?_ _ | refine Below.alloc ?_ (by first | (simp; done) | omega | (simp; omega)) _ | refine Below.setCell ?_ (by first | (simp; done) | omega | (simp; omega)) _ | refine Below.trans ?_ (Below.mono (by assumption) (by first | (simp; done) | omega | (simp; omega))))))⟩
      case round =>
        obtain ⟨j, hj, rfl, rfl, hbr⟩ := hrel
        have hzr := hbr.size
        by_cases hjl : j = rs.length
        · subst hjl
          go_wp2_with fail
          go_ret
          exact ⟨by rw [HQ.out]; rfl, (by with_reducible (repeat (first | assumption | exact Below.refl _ _ | refine Below.drew ?_ | refine below_drewN ?_ _ | refine Below.alloc ?_ (by first | (simp; done) | omega | (simp; omega)) _ | refine Below.setCell ?_ (by first | (simp; done) | omega | (simp; omega)) _ | refine Below.trans ?_ (Below.mono (by assumption) (by first | (simp; done) | omega | (simp; omega))))))⟩
        · have hj1 : j < rs.length := by omega
          have hj2 : (j : Int) < (rs.length : Int) := by omega
          have hRr := HR.out.below hbr hlt
          have c0 := hRr.c0 j hj1
          have c1 := hRr.c1 j hj1
          have c3 := hRr.c3 j hj1
          have hb0 : (a.add (j * 5)).block < wr.heap.size := hRr.lt' _
          obtain ⟨n1, n2⟩ := HB.out j hj
          obtain ⟨a1, a2, hd⟩ := HP.out j hj1
          have HS := Lib.hid (netTo_succ (order := order) hj1)
          clear hRr
          generalize rs[j] = r at *
          obtain ⟨o, d, code, amt, qty⟩ := r
          simp only at c0 c1 c3 a1 a2 hd
          generalize hn : netTo rs order j = n at *
          clear hn
          by_cases ho : o = order
          · subst ho
            have b1 : n + amt ≤ 9223372036854775807 := by omega
            have b2 : -9223372036854775808 ≤ n - amt := by omega
            have b3 : -9223372036854775808 ≤ n + amt := by omega
            have b4 : n - amt ≤ 9223372036854775807 := by omega
            rcases hd with rfl | rfl
            · have HS := Lib.hid (HS.out.trans (show _ = n + amt by simp [contrib]))
              go_wp2_with (go_at_call 21; go_must ((with_reducible refine (hC _ (by with_reducible (repeat (first | assumption | exact Below.refl _ _ | refine Below.drew ?_ | refine below_drewN ?_ _ | refine Below.alloc ?_ (by first | (simp; done) | omega | (simp; omega)) _ | refine Below.setCell ?_ (by first | (simp; done) | omega | (simp; omega)) _ | refine Below.trans ?_ (Below.mono (by assumption) (by first | (simp; done) | omega | (simp; omega))))))).mono ?_); rintro e w1 ⟨rfl, hb⟩; obtain ⟨hc, hf⟩ := bcell hb; have hz := hb.size; (try simp at hz); (try have hzT := Nat.lt_of_succ_le hz); have hcA := bcell_any hb))
              go_roundw
              case rel => exact ⟨j + 1, by omega, by go_num, by rw [HS.out], (by with_reducible (repeat (first | assumption | exact Below.refl _ _ | refine Below.drew ?_ | refine below_drewN ?_ _ | refine Below.alloc ?_ (by first | (simp; done) | omega | (simp; omega)) _ | refine Below.setCell ?_ (by first | (simp; done) | omega | (simp; omega)) _ | refine Below.trans ?_ (Below.mono (by assumption) (by first | (simp; done) | omega | (simp; omega))))))⟩
              case measure => simp [intOf] <;> omega
            · have HS := Lib.hid (HS.out.trans (show _ = n - amt by simp [contrib]; omega))
              go_wp2_with (go_at_call 21; go_must ((with_reducible refine (hC _ (by with_reducible (repeat (first | assumption | exact Below.refl _ _ | refine Below.drew ?_ | refine below_drewN ?_ _ | refine Below.alloc ?_ (by first | (simp; done) | omega | (simp; omega)) _ | refine Below.setCell ?_ (by first | (simp; done) | omega | (simp; omega)) _ | refine Below.trans ?_ (Below.mono (by assumption) (by first | (simp; done) | omega | (simp; omega))))))).mono ?_); rintro e w1 ⟨rfl, hb⟩; obtain ⟨hc, hf⟩ := bcell hb; have hz := hb.size; (try simp at hz); (try have hzT := Nat.lt_of_succ_le hz); have hcA := bcell_any hb))
              go_roundw
              case rel => exact ⟨j + 1, by omega, by go_num, by rw [HS.out], (by with_reducible (repeat (first | assumption | exact Below.refl _ _ | refine Below.drew ?_ | refine below_drewN ?_ _ | refine Below.alloc ?_ (by first | (simp; done) | omega | (simp; omega)) _ | refine Below.setCell ?_ (by first | (simp; done) | omega | (simp; omega)) _ | refine Below.trans ?_ (Below.mono (by assumption) (by first | (simp; done) | omega | (simp; omega))))))⟩
              case measure => simp [intOf] <;> omega
          · have hob : (o == order) = false := by simpa using ho
            have HS := Lib.hid (HS.out.trans (show _ = n by simp [contrib, ho]))
            clear ho hd
            go_wp2_with (go_at_call 21; go_must ((with_reducible refine (hC _ (by with_reducible (repeat (first | assumption | exact Below.refl _ _ | refine Below.drew ?_ | refine below_drewN ?_ _ | refine Below.alloc ?_ (by first | (simp; done) | omega | (simp; omega)) _ | refine Below.setCell ?_ (by first | (simp; done) | omega | (simp; omega)) _ | refine Below.trans ?_ (Below.mono (by assumption) (by first | (simp; done) | omega | (simp; omega))))))).mono ?_); rintro e w1 ⟨rfl, hb⟩; obtain ⟨hc, hf⟩ := bcell hb; have hz := hb.size; (try simp at hz); (try have hzT := Nat.lt_of_succ_le hz); have hcA := bcell_any hb))
            go_roundw
            case rel => exact ⟨j + 1, by omega, by go_num, by rw [HS.out], (by with_reducible (repeat (first | assumption | exact Below.refl _ _ | refine Below.drew ?_ | refine below_drewN ?_ _ | refine Below.alloc ?_ (by first | (simp; done) | omega | (simp; omega)) _ | refine Below.setCell ?_ (by first | (simp; done) | omega | (simp; omega)) _ | refine Below.trans ?_ (Below.mono (by assumption) (by first | (simp; done) | omega | (simp; omega))))))⟩
            case measure => simp [intOf] <;> omega
end Go.Proofs.YtkgjcbkmdpndhaaDoor

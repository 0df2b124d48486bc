/-
  The law BooksZero returns true, by walking its text; conditions: the postings lie in memory, int64 numbers. (Printed by wip/mkbkzero.py.)
-/
import Derived.Test.YthiokpjakiidjaaBkSm
namespace Go.Proofs.Ythiokpjakiidjaa
open Go.RowKit Go.Own Go.Maps

set_option maxHeartbeats 32000000 in
set_option maxRecDepth 100000 in
theorem booksZero_any {W : World} {v0 : Value} {l : List Pst} (h : IsL W 5 v0 (l.map pstC)) (hw : ∀ p ∈ l, WfP p) :
    Calls Try.prog 3 #[v0] W fun e w' => e = .returned (.bool true) ∧ Below W.heap.size W w' := by
  have HH := Lib.hid h
  have HW := Lib.hid hw
  have GR := fun w (hb : Below W.heap.size W w) => great_any 60 (h.below hb h.lt)
  obtain ⟨sp, sc, rfl, hmx⟩ := h.slice
  rw [List.length_map] at hmx HH GR ⊢
  have PO := fun w => posted_any w
  have HO := Own.start W
  clear h hw
  cases hg : greatB l 60
  · have h60 : l.length ≤ 60 := by
      simp only [greatB, Bool.or_eq_false_iff, decide_eq_false_iff_not] at hg
      omega
    rw [hg] at GR
    clear hg
    go_enter Try.func3, Try.ntmps3
    go_wp2_with (first | (go_at_call 8; go_must ((with_reducible refine (GR _ HO.grown).mono ?_); rintro e w ⟨rfl, hb⟩; replace HO := HO.call hb; clear hb)) | (go_at_call 10; go_must ((with_reducible refine (bkNew_any _).mono ?_); rintro e w ⟨b, pm, bm, rfl, HO1⟩; replace HO := HO.lift HO1; clear HO1; simp only [List.cons_append, List.nil_append] at HO)))
    go_loopw [4] (fun i wr => ∃ (j : Nat) (v : Value), j ≤ l.length ∧ i = .int .i64 (j : Int) ∧ Own W wr [bkE b v pm bm (smalls (l.take j))]) (fun i _ => l.length - (intOf i).toNat)
    case atStart => exact ⟨0, _, by omega, rfl, HO⟩
    case round =>
      clear HO
      obtain ⟨j, v, hj, rfl, HO⟩ := hrel
      by_cases hjl : j < l.length
      · have hjI : (j : Int) < (l.length : Int) := by omega
        obtain ⟨a, rfl, hst⟩ := oldAt HH.out rfl hjl
        replace hst := Lib.hid hst
        obtain ⟨hB, hWf, hLen, hS⟩ := smalls_ok (l := l.take j) (fun p hp => HW.out p (List.mem_of_mem_take hp))
        rw [List.length_take] at hLen
        have HT := Lib.hid (smalls_take hjl)
        have SM := fun w => small_any l[j] w
        have hsw := small_wf (HW.out _ (List.getElem_mem hjl))
        have hss := smallP_small l[j]
        generalize smallP l[j] = q at *
        generalize l[j] = p0 at *
        generalize smalls (l.take j) = P at *
        have hE := small_err hS (by omega) hss
        have P1 := fun (w : World) (hO : Own W w [bkE b v pm bm P]) => bkPost_any q hO (L' := fun v' => [bkE b v' pm bm (postL P q)]) (fun v' => .head _) hB hsw (by omega)
        generalize postE P q = ex at *
        generalize postL P q = N at *
        clear hB hWf hLen hS hsw hss
        obtain ⟨qi, qo, qd, qc, qa⟩ := q
        obtain ⟨pi, po, pd, pc, pa⟩ := p0
        simp only [pstV, pstC] at hst P1 SM
        rcases hE with rfl | rfl
        all_goals
          go_wp2_with (first | (first | go_big_skip | ((with_reducible apply wpList_loadAll HO); exact rfl; exact rfl; (repeat (with_reducible (first | exact At.head _ | apply At.tail))); infer_instance; exact rfl; exact rfl; (simp only [Act.put, List.setIfInBounds_toArray, List.set_cons_succ, List.set_cons_zero])) | ((with_reducible apply wpList_loadOne HO); exact rfl; exact rfl; (repeat (with_reducible (first | exact At.head _ | apply At.tail))); exact rfl; infer_instance; exact rfl; (simp only [Act.put, List.setIfInBounds_toArray, List.set_cons_succ, List.set_cons_zero]))) | ((with_reducible apply wpList_loadAt HO); exact rfl; exact rfl; exact (fun w' h1 => hst.out w' h1.grown); infer_instance; exact rfl; exact rfl; (simp only [Act.put, List.setIfInBounds_toArray, List.set_cons_succ, List.set_cons_zero])) | (go_at_call 12; go_must ((with_reducible refine (SM _).mono ?_); rintro e w ⟨rfl, hb⟩; replace HO := HO.call hb; clear hb)) | (go_at_call 11; go_must ((with_reducible refine (P1 _ HO).mono ?_); clear HO; rintro e w ⟨rfl, v1, HO⟩)))
          go_roundw
          case rel => exact ⟨j + 1, _, by omega, by go_num, by rw [HT.out]; exact HO⟩
          case measure => simp [intOf] <;> omega
      · obtain rfl : j = l.length := by omega
        obtain ⟨hB, hWf, hLen, hS⟩ := smalls_ok (l := l) HW.out
        rw [List.take_length] at HO
        generalize smalls l = P at *
        have hz := fun o => sumBo_zero o hB.may
        have hbd := fun n o => bal_bound hS n o
        have hor := fun n => bal_orders hS n
        replace hz := Lib.hid hz
        replace hbd := Lib.hid hbd
        replace hor := Lib.hid hor
        have hmay := Lib.hid hB.may
        clear hB hWf hS
        have BL := fun (w : World) (n o : Int) (hn : inI n = true) (ho : inI o = true) (hO : Own W w [bkE b v pm bm P]) => bkBal_any (Own.bkAt hO (.head _)) hn ho
        go_wp2_with fail
        go_loopw [6, 7, 8] (fun i s m wr => ∃ k : Nat, k ≤ 5 ∧ i = .int .i64 (k : Int) ∧ Own W wr [bkE b v pm bm P]) (fun i _ _ _ => 5 - (intOf i).toNat)
        case atStart => exact ⟨0, by omega, rfl, HO⟩
        case round =>
          clear HO
          obtain ⟨k, hk, rfl, HO⟩ := hrel
          by_cases hk5 : k < 5
          · have hkI : (k : Int) ≤ 4 := by omega
            go_wp2_with fail
            go_loopw [7, 8] (fun s m wr => ∃ c : Nat, c ≤ 5 ∧ m = .int .i64 (c : Int) ∧ s = .int .i64 (IntKind.i64.wrap (sumBo P (k : Int) c)) ∧ Own W wr [bkE b v pm bm P]) (fun _ m _ => 5 - (intOf m).toNat)
            case atStart => exact ⟨0, by omega, rfl, rfl, HO⟩
            case round =>
              clear HO
              obtain ⟨c, hc, rfl, rfl, HO⟩ := hrel
              by_cases hc5 : c < 5
              · have hcI : (c : Int) < 5 := by omega
                have B1 := fun w => BL w (c : Int) (k : Int) (inI_iff.2 (by omega)) (inI_iff.2 (by omega))
                have e : IntKind.i64.wrap (IntKind.i64.wrap (sumBo P (k : Int) c) + bal P (c : Int) (k : Int)) = IntKind.i64.wrap (sumBo P (k : Int) (c + 1)) := by
                  simp only [sumBo, IntKind.wrap_i64]; omega
                generalize IntKind.i64.wrap (sumBo P (k : Int) c) = s0 at *
                generalize bal P (c : Int) (k : Int) = t0 at *
                go_wp2_with (first | (go_at_call 13; go_must ((with_reducible refine (B1 _ HO).mono ?_); rintro e w ⟨rfl, hb⟩; replace HO := HO.call hb; clear hb)))
                go_roundw
                case rel => exact ⟨c + 1, by omega, by go_num, by rw [IntKind.wrap_i64, wrap64], HO⟩
                case measure => simp [intOf] <;> omega
              · obtain rfl : c = 5 := by omega
                have e0 : IntKind.i64.wrap (sumBo P (k : Int) 5) = 0 := by rw [hz.out]; rfl
                rw [e0] at *
                go_wp2_with fail
                go_roundw
                case rel => exact ⟨k + 1, by omega, by go_num, HO⟩
                case measure => simp [intOf] <;> omega
          · have hkI : ¬ (k : Int) ≤ 4 := by omega
            go_wp2_with fail
            go_loopw [9] (fun m wr => ∃ c : Nat, c ≤ 5 ∧ m = .int .i64 (c : Int) ∧ Own W wr [bkE b v pm bm P]) (fun m _ => 5 - (intOf m).toNat)
            case atStart => exact ⟨0, by omega, rfl, HO⟩
            case round =>
              clear HO
              obtain ⟨c, hc, rfl, HO⟩ := hrel
              by_cases hc5 : c < 5
              · have hcI : (c : Int) < 5 := by omega
                have hci : inI (c : Int) = true := inI_iff.2 (by omega)
                have B1 := fun w => BL w (c : Int) 1 hci rfl
                have B2 := fun w => BL w (c : Int) 2 hci rfl
                have B3 := fun w => BL w (c : Int) 3 hci rfl
                have B4 := fun w => BL w (c : Int) 4 hci rfl
                have B0 := fun w => BL w (c : Int) 0 hci rfl
                have q1 := hbd.out (c : Int) 1
                have q2 := hbd.out (c : Int) 2
                have q3 := hbd.out (c : Int) 3
                have q4 := hbd.out (c : Int) 4
                have q0 := hor.out (c : Int)
                generalize bal P (c : Int) 1 = z1 at *
                generalize bal P (c : Int) 2 = z2 at *
                generalize bal P (c : Int) 3 = z3 at *
                generalize bal P (c : Int) 4 = z4 at *
                generalize bal P (c : Int) 0 = z0 at *
                have w1 : IntKind.i64.wrap (z1 + z2) = z1 + z2 := by rw [IntKind.wrap_i64]; omega
                have w2 : IntKind.i64.wrap (z1 + z2 + z3) = z1 + z2 + z3 := by rw [IntKind.wrap_i64]; omega
                have w3 : IntKind.i64.wrap (z1 + z2 + z3 + z4) = z0 := by rw [IntKind.wrap_i64]; omega
                clear q1 q2 q3 q4 q0
                go_wp2_with (first | (go_at_call 13; first | ((with_reducible refine (B1 _ HO).mono ?_); (rintro e w ⟨rfl, hb⟩; replace HO := HO.call hb; clear hb)) | ((with_reducible refine (B2 _ HO).mono ?_); (rintro e w ⟨rfl, hb⟩; replace HO := HO.call hb; clear hb)) | ((with_reducible refine (B3 _ HO).mono ?_); (rintro e w ⟨rfl, hb⟩; replace HO := HO.call hb; clear hb)) | ((with_reducible refine (B4 _ HO).mono ?_); (rintro e w ⟨rfl, hb⟩; replace HO := HO.call hb; clear hb)) | ((with_reducible refine (B0 _ HO).mono ?_); (rintro e w ⟨rfl, hb⟩; replace HO := HO.call hb; clear hb))))
                go_roundw
                case rel => exact ⟨c + 1, by omega, by go_num, HO⟩
                case measure => simp [intOf] <;> omega
              · obtain rfl : c = 5 := by omega
                have ZA := fun (w : World) (hO : Own W w [bkE b v pm bm P]) => bkZero_any (Own.bkAt hO (.head _)) hmay.out
                go_wp2_with (first | (go_at_call 14; go_must ((with_reducible refine (ZA _ HO).mono ?_); rintro e w ⟨rfl, hb⟩; replace HO := HO.call hb; clear hb)) | (go_at_call 9; go_must ((with_reducible refine (PO _).mono ?_); rintro e w ⟨rfl, hb⟩; replace HO := HO.call hb; clear hb)))
                go_ret
                exact ⟨rfl, HO.grown⟩
  · rw [hg] at GR
    go_enter Try.func3, Try.ntmps3
    go_wp2_with (first | (go_at_call 8; go_must ((with_reducible refine (GR _ HO.grown).mono ?_); rintro e w ⟨rfl, hb⟩; replace HO := HO.call hb; clear hb)) | (go_at_call 9; go_must ((with_reducible refine (PO _).mono ?_); rintro e w ⟨rfl, hb⟩; replace HO := HO.call hb; clear hb)))
    go_ret
    exact ⟨rfl, HO.grown⟩
end Go.Proofs.Ythiokpjakiidjaa

/-
  The law BooksOrder returns true, by walking its text; conditions: the postings lie in memory, int64 numbers. (Printed by wip/mkbkorder.py.)
-/
import Derived.Test.YthiokpjakiidjaaBkOrdL
import Derived.Test.YthiokpjakiidjaaStrOf
namespace Go.Proofs.Ythiokpjakiidjaa
open Go.RowKit Go.Own Go.Maps

def ownP (i : Nat) (p : Pst) : Pst := ⟨⟨#[UInt8.ofNat (97 + i)]⟩, (smallP p).o, (smallP p).d, (smallP p).c, (smallP p).a⟩
theorem ownP_small (i : Nat) (p : Pst) : mayPst (ownP i p) = true ∧ (ownP i p).a ≤ 1099511627775 ∧ (ownP i p).o ≤ 4 := by
  obtain ⟨h1, h2, h3⟩ := smallP_small p
  exact ⟨mayPst_iff.2 ⟨by simp [ownP, ByteArray.size], (mayPst_iff.1 h1).2⟩, h2, h3⟩
theorem ownP_wf {i : Nat} {p : Pst} (h : WfP p) : WfP (ownP i p) := ⟨(small_wf h).o, (small_wf h).d, (small_wf h).c, (small_wf h).a, by show 1 ≤ _; unfold maxLen; omega⟩
def ownO (l : List Pst) : List Pst := l.mapIdx ownP
theorem ownO_len (l : List Pst) : (ownO l).length = l.length := by simp [ownO]
theorem ownO_take {l : List Pst} {j : Nat} (hj : j < l.length) : (ownO l).take (j + 1) = (ownO l).take j ++ [ownP j l[j]] := by
  rw [List.take_succ_eq_append_getElem (by rw [ownO_len]; exact hj)]
  simp [ownO]
theorem ownO_own {l : List Pst} (h : ∀ p ∈ l, WfP p) (hl : l.length ≤ 100) : OwnL (ownO l) := by
  refine ⟨fun p hp => ?_, fun p hp => ?_, fun i j hi hj he => ?_⟩
  · obtain ⟨i, hi, rfl⟩ := List.mem_iff_getElem.1 hp
    simp only [ownO, List.getElem_mapIdx]
    exact ownP_small _ _
  · obtain ⟨i, hi, rfl⟩ := List.mem_iff_getElem.1 hp
    simp only [ownO, List.getElem_mapIdx]
    exact ownP_wf (h _ (List.getElem_mem _))
  · rw [ownO_len] at hi hj
    simp only [ownO, List.getElem_mapIdx, ownP, ByteArray.mk.injEq, Array.mk.injEq, List.cons.injEq, and_true] at he
    have h2 := congrArg UInt8.toNat he
    rw [UInt8.toNat_ofNat', UInt8.toNat_ofNat'] at h2
    omega
def zPst : List Value := [.string ⟨#[]⟩, .int .i64 0, .int .i64 0, .int .i64 0, .int .i64 0]
/-- The row when j postings have been brought. -/
def rowO (l : List Pst) (j : Nat) : List (List Value) := ((ownO l).take j).map pstC ++ List.replicate (l.length - j) zPst
theorem rowO_zero (l : List Pst) : rowO l 0 = List.replicate l.length zPst := by simp [rowO]
theorem rowO_end (l : List Pst) : rowO l l.length = (ownO l).map pstC := by simp [rowO, ← ownO_len l]
theorem rowO_len (l : List Pst) {j : Nat} (hj : j ≤ l.length) : (rowO l j).length = l.length := by simp [rowO, ownO_len]; omega
theorem rowO_five (l : List Pst) (j : Nat) : ∀ x ∈ rowO l j, x.length = 5 := fun x hx => by
  rcases List.mem_append.1 hx with hx | hx
  · exact pstC_len _ x hx
  · rw [List.eq_of_mem_replicate hx]; rfl
theorem rowO_set {l : List Pst} {j : Nat} (hj : j < l.length) (x : List Value) : (rowO l j).set j x = ((ownO l).take j).map pstC ++ x :: List.replicate (l.length - (j + 1)) zPst := by
  unfold rowO
  rw [List.set_append_right _ _ (by simp [ownO_len]; omega)]
  simp only [List.length_map, List.length_take, ownO_len, Nat.min_eq_left (Nat.le_of_lt hj), Nat.sub_self]
  rw [show l.length - j = (l.length - (j + 1)) + 1 by omega, List.replicate_succ, List.set_cons_zero]
theorem rowO_next {l : List Pst} {j : Nat} (hj : j < l.length) (x : List Value) : ((rowO l j).set j x).set j (pstC (ownP j l[j])) = rowO l (j + 1) := by
  rw [List.set_set, rowO_set hj, rowO, ownO_take hj, List.map_append, List.append_assoc]
  rfl

set_option maxHeartbeats 32000000 in
set_option maxRecDepth 100000 in
theorem booksOrder_any {W : World} {v0 : Value} {l : List Pst} (by' : Nat) (h : IsL W 5 v0 (l.map pstC)) (hw : ∀ p ∈ l, WfP p) (hby : by' ≤ 255) :
    Calls Try.prog 4 #[v0, .int .u8 (by' : Int)] W fun e w' => e = .returned (.bool true) ∧ Below W.heap.size W w' := by
  have HH := Lib.hid h
  have HW := Lib.hid hw
  have GR := fun w (hb : Below W.heap.size W w) => great_any 40 (h.below hb h.lt)
  obtain ⟨sp, sc, rfl, hmx⟩ := h.slice
  rw [List.length_map] at hmx HH GR ⊢
  have PO := fun w => posted_any w
  have HO := Own.start W
  cases hg : greatB l 40
  · have h40 : l.length ≤ 40 := by
      simp only [greatB, Bool.or_eq_false_iff, decide_eq_false_iff_not] at hg
      omega
    rw [hg] at GR
    clear hg
    by_cases h0 : l.length = 0
    · have h0I : ((l.length : Int) == 0) = true := by rw [h0]; rfl
      clear h hw h0
      go_enter Try.func4, Try.ntmps4
      go_wp2_with (first | (go_at_call 8; go_must ((with_reducible refine (GR _ HO.grown).mono ?_); rintro e w ⟨rfl, hb⟩; replace HO := HO.call hb; clear hb)) | (go_at_call 9; go_must ((with_reducible refine (PO _).mono ?_); rintro e w ⟨rfl, hb⟩; replace HO := HO.call hb; clear hb)))
      go_ret
      exact ⟨rfl, HO.grown⟩
    · have h0I : ((l.length : Int) == 0) = false := by rw [beq_eq_false_iff_ne]; omega
      have HOW := Lib.hid (ownO_own hw (by omega))
      clear h hw
      have hmk : l.length * 5 ≤ 1000000 := by omega
      have hmk2 : 48 * l.length ≤ 281474976710656 := by omega
      go_enter Try.func4, Try.ntmps4
      go_wp2_with (first | (go_at_call 8; go_must ((with_reducible refine (GR _ HO.grown).mono ?_); rintro e w ⟨rfl, hb⟩; replace HO := HO.call hb; clear hb)) | ((with_reducible apply wpList_makeRow (n := l.length) HO); exact rfl; exact rfl; exact rfl; exact Try.underlying22; infer_instance; infer_instance; exact rfl; exact hmk; exact hmk2; exact rfl; clear HO; intro br w HO; (simp only [Act.put, List.setIfInBounds_toArray, List.set_cons_succ, List.set_cons_zero])))
      replace HO : Own W w [row 30 5 (.slice (some ⟨br, 0, none⟩) l.length l.length) (rowO l 0)] := by rw [rowO_zero]; exact HO
      go_loopw [6] (fun i wr => ∃ j : Nat, j ≤ l.length ∧ i = .int .i64 (j : Int) ∧ Own W wr [row 30 5 (.slice (some ⟨br, 0, none⟩) l.length l.length) (rowO l j)]) (fun i _ => l.length - (intOf i).toNat)
      case atStart => exact ⟨0, by omega, rfl, HO⟩
      case round =>
        clear HO
        obtain ⟨j, hj, rfl, HO⟩ := hrel
        by_cases hjl : j < l.length
        · have hjI : (j : Int) < (l.length : Int) := by omega
          obtain ⟨a, rfl, hst⟩ := oldAt HH.out rfl hjl
          replace hst := Lib.hid hst
          have SM := fun w => small_any l[j] w
          have HN := Lib.hid (rowO_next hjl (pstC (smallP l[j])))
          have H5 := Lib.hid (rowO_five l j)
          have hlen : j < (rowO l j).length := by rw [rowO_len l hj]; exact hjl
          have H6 := Lib.hid (show ∀ x ∈ (rowO l j).set j (pstC (smallP l[j])), x.length = 5 from fun x hx => by
            rcases List.mem_or_eq_of_mem_set hx with hx | rfl
            · exact rowO_five l j x hx
            · rfl)
          have HG := Lib.hid (show ((rowO l j).set j (pstC (smallP l[j])))[j]? = some (pstC (smallP l[j])) by rw [List.getElem?_set_self hlen])
          have hw8 : IntKind.u8.wrap (j : Int) = (j : Int) := by rw [IntKind.wrap_u8]; omega
          have hw9 : IntKind.u8.wrap (97 + (j : Int)) = ((97 + j : Nat) : Int) := by rw [IntKind.wrap_u8]; omega
          have hj2 : 97 + j < 256 := by omega
          have HP := Lib.hid (show pstC (ownP j l[j]) = [.string ⟨#[UInt8.ofNat (97 + j)]⟩, .int .i64 (smallP l[j]).o, .int .i64 (smallP l[j]).d, .int .i64 (smallP l[j]).c, .int .i64 (smallP l[j]).a] from rfl)
          generalize pstC (ownP j l[j]) = y at *
          generalize smallP l[j] = q at *
          generalize l[j] = p0 at *
          generalize rowO l j = A at *
          obtain ⟨qi, qo, qd, qc, qa⟩ := q
          obtain ⟨pi, po, pd, pc, pa⟩ := p0
          simp only [pstV, pstC] at *
          go_wp2_with (first | (first | go_big_skip | ((with_reducible apply wpList_loadAll HO); exact rfl; exact rfl; (repeat (with_reducible (first | exact At.head _ | apply At.tail))); infer_instance; exact rfl; exact rfl; (simp only [Act.put, List.setIfInBounds_toArray, List.set_cons_succ, List.set_cons_zero])) | ((with_reducible apply wpList_loadOne HO); exact rfl; exact rfl; (repeat (with_reducible (first | exact At.head _ | apply At.tail))); exact rfl; infer_instance; exact rfl; (simp only [Act.put, List.setIfInBounds_toArray, List.set_cons_succ, List.set_cons_zero]))) | ((with_reducible apply wpList_loadAt HO); exact rfl; exact rfl; exact (fun w' h1 => hst.out w' h1.grown); infer_instance; exact rfl; exact rfl; (simp only [Act.put, List.setIfInBounds_toArray, List.set_cons_succ, List.set_cons_zero])) | (go_at_call 12; go_must ((with_reducible refine (SM _).mono ?_); rintro e w ⟨rfl, hb⟩; replace HO := HO.call hb; clear hb)) | (first | ((with_reducible apply wpList_lit1 HO); exact rfl; infer_instance; infer_instance; exact rfl; exact rfl; exact (by decide); exact rfl; clear HO; intro bb w HO; (simp only [Act.put, List.setIfInBounds_toArray, List.set_cons_succ, List.set_cons_zero])) | ((with_reducible apply wpList_lit1c HO); exact rfl; infer_instance; infer_instance; (first | (simp [Act.eval]; rfl) | exact rfl); exact rfl; exact rfl; clear HO; intro bb w HO; (simp only [Act.put, List.setIfInBounds_toArray, List.set_cons_succ, List.set_cons_zero]))) | ((with_reducible apply wpList_strOne (n := 97 + j) HO); exact rfl; exact rfl; (repeat (with_reducible (first | exact At.head _ | apply At.tail))); (first | omega | (simp; done) | (simp; omega)); exact Try.underlying34; exact Try.underlying5; exact Try.underlying9; (first | omega | decide); exact rfl; (simp only [Act.put, List.setIfInBounds_toArray, List.set_cons_succ, List.set_cons_zero])) | ((with_reducible apply wpList_storeRow (q := ⟨br, 0, none⟩) (i := j) (k := 5) (n := l.length) (c := l.length) HO); exact rfl; (rw [addAt, Nat.zero_add]; exact rfl); (first | (simp [Act.eval]; rfl) | exact rfl); exact rfl; (repeat (with_reducible (first | exact At.head _ | apply At.tail))); exact H5.out; exact hlen; exact rfl; infer_instance; exact rfl; exact rfl; clear HO; intro w HO; (simp only [Act.put])) | ((with_reducible apply wpList_storeRow1 (q := ⟨br, 0, none⟩) (i := j) (k := 5) (f := 0) (n := l.length) (c := l.length) HO); exact rfl; (rw [add0, addAt, Nat.zero_add]; exact rfl); exact rfl; exact rfl; exact HG.out; decide; (repeat (with_reducible (first | exact At.head _ | apply At.tail))); exact H6.out; infer_instance; exact rfl; clear HO; intro w HO; (simp only [Act.put])))
          have HO2 : Own W w [row 30 5 (.slice (some ⟨br, 0, none⟩) l.length l.length) (rowO l (j + 1))] := by rw [← HN.out, HP.out]; exact HO.tail
          clear HO
          have HO := HO2
          clear HO2
          go_roundw
          case rel => exact ⟨j + 1, by omega, by go_num, HO⟩
          case measure => simp [intOf] <;> omega
        · obtain rfl : j = l.length := by omega
          rw [rowO_end] at HO
          have hOl := Lib.hid (ownO_len l)
          generalize ownO l = O at *
          have S0 := Lib.hid (fun k (hk : k < (turned O.length 0).length) hik => HOW.out.step turned_inj turned_lt (by rw [turned_len, hOl.out]; omega) hk hik)
          have S1 := Lib.hid (fun k (hk : k < (turned O.length by').length) hik => HOW.out.step turned_inj turned_lt (by rw [turned_len, hOl.out]; omega) hk hik)
          have L0 := Lib.hid (HOW.out.len (by rw [hOl.out]; omega) 0)
          have L1 := Lib.hid (HOW.out.len (by rw [hOl.out]; omega) by')
          go_wp2_with (first | (go_at_call 10; first | ((have _h : Own W _ [_] := HO); clear _h; ((with_reducible refine (bkNew_any _).mono ?_); rintro e w ⟨b1, pm1, bm1, rfl, HO1⟩; replace HO := HO.lift HO1; clear HO1; simp only [List.cons_append, List.nil_append] at HO)) | ((with_reducible refine (bkNew_any _).mono ?_); rintro e w ⟨b2, pm2, bm2, rfl, HO1⟩; replace HO := HO.lift HO1; clear HO1; simp only [List.cons_append, List.nil_append] at HO)))
          replace HO : Own W w [bkE b2 (.slice none 0 0) pm2 bm2 (sel O ((turned O.length by').take 0)), bkE b1 (.slice none 0 0) pm1 bm1 (sel O ((turned O.length 0).take 0)), row 30 5 (.slice (some ⟨br, 0, none⟩) l.length l.length) (O.map pstC)] := HO
          go_loopw [9, 10] (fun i k wr => ∃ (j : Nat) (v1 v2 : Value), j ≤ l.length ∧ i = .int .i64 (j : Int) ∧ Own W wr [bkE b2 v2 pm2 bm2 (sel O ((turned O.length by').take j)), bkE b1 v1 pm1 bm1 (sel O ((turned O.length 0).take j)), row 30 5 (.slice (some ⟨br, 0, none⟩) l.length l.length) (O.map pstC)]) (fun i _ _ => l.length - (intOf i).toNat)
          case atStart => exact ⟨0, _, _, by omega, rfl, HO⟩
          case round =>
            clear HO
            obtain ⟨j, v1, v2, hj, rfl, HO⟩ := hrel
            by_cases hjl : j < l.length
            · have hjI : (j : Int) < (l.length : Int) := by omega
              obtain ⟨k, hk⟩ : ∃ k, k = (j + by') % l.length := ⟨_, rfl⟩
              have hkl : k < l.length := by rw [hk]; exact Nat.mod_lt _ (by omega)
              have hkI : (k : Int) < (l.length : Int) := by omega
              have hnz : ¬ ((l.length : Int) = 0) := by omega
              have hwb : IntKind.i64.wrap (by' : Int) = (by' : Int) := by rw [IntKind.wrap_i64]; omega
              have hws : IntKind.i64.wrap ((j : Int) + (by' : Int)) = (j : Int) + (by' : Int) := by rw [IntKind.wrap_i64]; omega
              have hmod : ((j : Int) + (by' : Int)).tmod (l.length : Int) = (k : Int) := by rw [Int.tmod_eq_emod_of_nonneg (by omega), hk]; rfl
              have hO := hOl.out
              have hjO : j < O.length := by omega
              have hkO : k < O.length := by omega
              have i0 : (turned O.length 0)[j]'(by rw [turned_len]; omega) = j := by rw [turned_at, Nat.add_zero, Nat.mod_eq_of_lt (by omega)]
              have i1 : (turned O.length by')[j]'(by rw [turned_len]; omega) = k := by rw [turned_at, hO, hk]
              obtain ⟨⟨a1, a2, a3, a4⟩, -⟩ := S0.out j (by rw [turned_len]; omega) (by rw [i0]; omega)
              obtain ⟨⟨c1, c2, c3, c4⟩, d1, d2, d3, d4⟩ := S1.out j (by rw [turned_len]; omega) (by rw [i1]; omega)
              have g0 : O[(turned O.length 0)[j]'(by rw [turned_len]; omega)]'(by rw [i0]; omega) = O[j]'hjO := by simp only [i0]
              have g1 : O[(turned O.length by')[j]'(by rw [turned_len]; omega)]'(by rw [i1]; omega) = O[k]'hkO := by simp only [i1]
              rw [g0] at a3 a4
              rw [g1] at c3 c4 d3 d4
              have RA := fun (m : Nat) (hm : m < O.length) (w' : World) (E1 E2 : Ent) (h1 : Own W w' [E1, E2, row 30 5 (.slice (some ⟨br, 0, none⟩) l.length l.length) (O.map pstC)]) => (fun i u hu => by
                have := h1.rowAt (.tail _ _ _ (.tail _ _ _ (.head _))) (pstC_len O) (show (O.map pstC)[m]? = some (pstC O[m]) by simp [hm]) i u hu
                rwa [show (⟨br, 0, none⟩ : Addr).add (m * 5) = ⟨br, m * 5, none⟩ by rw [addAt, Nat.zero_add]] at this : ∀ i u, (pstC O[m])[i]? = some u → w'.cell? ((⟨br, m * 5, none⟩ : Addr).add i) = some u)
              have RX := RA j hjO
              have RY := RA k hkO
              have wx := HOW.out.w _ (List.getElem_mem hjO)
              have wy := HOW.out.w _ (List.getElem_mem hkO)
              clear g0 g1 i0 i1 hO hk RA
              generalize O[j]'hjO = x at *
              generalize O[k]'hkO = y at *
              have P1 := fun (w : World) (v : Value) (C : List Pst) (hO : Own W w [bkE b2 v pm2 bm2 C, bkE b1 v1 pm1 bm1 (sel O ((turned O.length 0).take j)), row 30 5 (.slice (some ⟨br, 0, none⟩) l.length l.length) (O.map pstC)]) => bkPost_any x hO (L' := fun v' => [bkE b2 v pm2 bm2 C, bkE b1 v' pm1 bm1 (postL (sel O ((turned O.length 0).take j)) x), row 30 5 (.slice (some ⟨br, 0, none⟩) l.length l.length) (O.map pstC)]) (fun v' => .tail _ _ _ (.head _)) a1 wx (by omega)
              have P2 := fun (w : World) (v : Value) (E : Ent) (hO : Own W w [bkE b2 v pm2 bm2 (sel O ((turned O.length by').take j)), E, row 30 5 (.slice (some ⟨br, 0, none⟩) l.length l.length) (O.map pstC)]) => bkPost_any y hO (L' := fun v' => [bkE b2 v' pm2 bm2 (postL (sel O ((turned O.length by').take j)) y), E, row 30 5 (.slice (some ⟨br, 0, none⟩) l.length l.length) (O.map pstC)]) (fun v' => .head _) c1 wy (by omega)
              have P3 := fun (w : World) (v : Value) (E : Ent) (hO : Own W w [bkE b2 v pm2 bm2 (sel O ((turned O.length by').take (j + 1))), E, row 30 5 (.slice (some ⟨br, 0, none⟩) l.length l.length) (O.map pstC)]) => bkPost_any y hO (L' := fun v' => [bkE b2 v' pm2 bm2 (postL (sel O ((turned O.length by').take (j + 1))) y), E, row 30 5 (.slice (some ⟨br, 0, none⟩) l.length l.length) (O.map pstC)]) (fun v' => .head _) d1 wy (by omega)
              rw [a3, a4] at P1
              rw [c3, c4] at P2
              rw [d3, d4] at P3
              clear a1 a2 a3 a4 c1 c2 c3 c4 d1 d2 d3 d4 wx wy
              generalize sel O ((turned O.length 0).take j) = A0 at *
              generalize sel O ((turned O.length by').take j) = C0 at *
              obtain ⟨xi, xo, xd, xc, xa⟩ := x
              obtain ⟨yi, yo, yd, yc, ya⟩ := y
              simp only [pstV, pstC] at RX RY P1 P2 P3
              go_wp2_with (first | (first | go_big_skip | ((with_reducible apply wpList_loadAll HO); exact rfl; exact rfl; (repeat (with_reducible (first | exact At.head _ | apply At.tail))); infer_instance; exact rfl; exact rfl; (simp only [Act.put, List.setIfInBounds_toArray, List.set_cons_succ, List.set_cons_zero])) | ((with_reducible apply wpList_loadOne HO); exact rfl; exact rfl; (repeat (with_reducible (first | exact At.head _ | apply At.tail))); exact rfl; infer_instance; exact rfl; (simp only [Act.put, List.setIfInBounds_toArray, List.set_cons_succ, List.set_cons_zero]))) | ((with_reducible apply wpList_loadAt HO); exact rfl; exact rfl; exact (fun w' h1 => RX w' _ _ h1); infer_instance; exact rfl; exact rfl; (simp only [Act.put, List.setIfInBounds_toArray, List.set_cons_succ, List.set_cons_zero])) | ((with_reducible apply wpList_loadAt HO); exact rfl; exact rfl; exact (fun w' h1 => RY w' _ _ h1); infer_instance; exact rfl; exact rfl; (simp only [Act.put, List.setIfInBounds_toArray, List.set_cons_succ, List.set_cons_zero])) | (go_at_call 11; first | ((with_reducible refine (P1 _ _ _ HO).mono ?_); clear HO; rintro e w ⟨rfl, v3, HO⟩) | ((with_reducible refine (P2 _ _ _ HO).mono ?_); clear HO; rintro e w ⟨rfl, v4, HO⟩) | ((with_reducible refine (P3 _ _ _ HO).mono ?_); clear HO; rintro e w ⟨rfl, v5, HO⟩)))
              go_roundw
              case rel => exact ⟨j + 1, _, _, by omega, by go_num, HO⟩
              case measure => simp [intOf] <;> omega
            · have hje : j = l.length := by omega
              have t0 : (turned O.length 0).take j = turned O.length 0 := List.take_of_length_le (by rw [turned_len, hOl.out]; omega)
              have t1 : (turned O.length by').take j = turned O.length by' := List.take_of_length_le (by rw [turned_len, hOl.out]; omega)
              rw [t0, t1] at HO
              clear t0 t1 hje S0 S1
              have hjI : ¬ (j : Int) < (l.length : Int) := by omega
              have e0 := fun n o => sel_turned O 0 n o
              have e1 := fun n o => sel_turned O by' n o
              have BA := fun (w : World) (n o : Int) (hn : inI n = true) (ho : inI o = true) (hO : Own W w [bkE b2 v2 pm2 bm2 (sel O (turned O.length by')), bkE b1 v1 pm1 bm1 (sel O (turned O.length 0)), row 30 5 (.slice (some ⟨br, 0, none⟩) l.length l.length) (O.map pstC)]) => bkBal_any (Own.bkAt hO (.tail _ _ _ (.head _))) hn ho
              have BC := fun (w : World) (n o : Int) (hn : inI n = true) (ho : inI o = true) (hO : Own W w [bkE b2 v2 pm2 bm2 (sel O (turned O.length by')), bkE b1 v1 pm1 bm1 (sel O (turned O.length 0)), row 30 5 (.slice (some ⟨br, 0, none⟩) l.length l.length) (O.map pstC)]) => bkBal_any (Own.bkAt hO (.head _)) hn ho
              have MA := fun (w : World) (hO : Own W w [bkE b2 v2 pm2 bm2 (sel O (turned O.length by')), bkE b1 v1 pm1 bm1 (sel O (turned O.length 0)), row 30 5 (.slice (some ⟨br, 0, none⟩) l.length l.length) (O.map pstC)]) => bkMany_any (Own.bkAt hO (.tail _ _ _ (.head _)))
              have MC := fun (w : World) (hO : Own W w [bkE b2 v2 pm2 bm2 (sel O (turned O.length by')), bkE b1 v1 pm1 bm1 (sel O (turned O.length 0)), row 30 5 (.slice (some ⟨br, 0, none⟩) l.length l.length) (O.map pstC)]) => bkMany_any (Own.bkAt hO (.head _))
              have hA : ((sel O (turned O.length 0)).length : Int) = (l.length : Int) := by rw [L0.out, hOl.out]
              have hC : ((sel O (turned O.length by')).length : Int) = (l.length : Int) := by rw [L1.out, hOl.out]
              rw [hA] at MA
              rw [hC] at MC
              simp only [e0] at BA
              simp only [e1] at BC
              clear e0 e1 L0 L1 HOW hA hC
              generalize sel O (turned O.length 0) = A0 at *
              generalize sel O (turned O.length by') = C0 at *
              go_wp2_with fail
              go_loopw [11, 12] (fun m o wr => ∃ k : Nat, k ≤ 5 ∧ m = .int .i64 (k : Int) ∧ Own W wr [bkE b2 v2 pm2 bm2 C0, bkE b1 v1 pm1 bm1 A0, row 30 5 (.slice (some ⟨br, 0, none⟩) l.length l.length) (O.map pstC)]) (fun m _ _ => 5 - (intOf m).toNat)
              case atStart => exact ⟨0, by omega, rfl, HO⟩
              case round =>
                clear HO
                obtain ⟨k, hk, rfl, HO⟩ := hrel
                by_cases hk5 : k < 5
                · have hkI : (k : Int) < 5 := by omega
                  go_wp2_with fail
                  go_loopw [12] (fun o wr => ∃ c : Nat, c ≤ 5 ∧ o = .int .i64 (c : Int) ∧ Own W wr [bkE b2 v2 pm2 bm2 C0, bkE b1 v1 pm1 bm1 A0, row 30 5 (.slice (some ⟨br, 0, none⟩) l.length l.length) (O.map pstC)]) (fun o _ => 5 - (intOf o).toNat)
                  case atStart => exact ⟨0, by omega, rfl, HO⟩
                  case round =>
                    clear HO
                    obtain ⟨c, hc, rfl, HO⟩ := hrel
                    by_cases hc5 : c < 5
                    · have hcI : (c : Int) ≤ 4 := by omega
                      have B1 := fun w => BA w (k : Int) (c : Int) (inI_iff.2 (by omega)) (inI_iff.2 (by omega))
                      have B2 := fun w => BC w (k : Int) (c : Int) (inI_iff.2 (by omega)) (inI_iff.2 (by omega))
                      generalize bal O (k : Int) (c : Int) = z at *
                      go_wp2_with (first | (go_at_call 13; first | ((with_reducible refine (B1 _ HO).mono ?_); (rintro e w ⟨rfl, hb⟩; replace HO := HO.call hb; clear hb)) | ((with_reducible refine (B2 _ HO).mono ?_); (rintro e w ⟨rfl, hb⟩; replace HO := HO.call hb; clear hb))))
                      go_roundw
                      case rel => exact ⟨c + 1, by omega, by go_num, HO⟩
                      case measure => simp [intOf] <;> omega
                    · have hcI : ¬ (c : Int) ≤ 4 := by omega
                      go_wp2_with fail
                      go_roundw
                      case rel => exact ⟨k + 1, by omega, by go_num, HO⟩
                      case measure => simp [intOf] <;> omega
                · have hkI : ¬ (k : Int) < 5 := by omega
                  go_wp2_with (first | (go_at_call 15; first | ((with_reducible refine (MA _ HO).mono ?_); (rintro e w ⟨rfl, hb⟩; replace HO := HO.call hb; clear hb)) | ((with_reducible refine (MC _ HO).mono ?_); (rintro e w ⟨rfl, hb⟩; replace HO := HO.call hb; clear hb))) | (go_at_call 9; go_must ((with_reducible refine (PO _).mono ?_); rintro e w ⟨rfl, hb⟩; replace HO := HO.call hb; clear hb)))
                  go_ret
                  exact ⟨rfl, HO.grown⟩
  · rw [hg] at GR
    clear h hw
    go_enter Try.func4, Try.ntmps4
    go_wp2_with (first | (go_at_call 8; go_must ((with_reducible refine (GR _ HO.grown).mono ?_); rintro e w ⟨rfl, hb⟩; replace HO := HO.call hb; clear hb)) | (go_at_call 9; go_must ((with_reducible refine (PO _).mono ?_); rintro e w ⟨rfl, hb⟩; replace HO := HO.call hb; clear hb)))
    go_ret
    exact ⟨rfl, HO.grown⟩
end Go.Proofs.Ythiokpjakiidjaa

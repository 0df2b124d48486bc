/-
  The law IntakeOrder returns true, by walking its text; conditions: the statements and turns lie in memory, the table of parties as laid. (Printed by wip/mkintord.py.)
-/
import Derived.Test.YtlfphfklcifgpaaDoorIntOrdLaw
import Derived.Test.YtlfphfklcifgpaaDoorFrameSts
namespace Go.Proofs.YtlfphfklcifgpaaDoor
open Go.RowKit Go.Own Go.Maps

def turnC (n : Nat) : List Value := [.int .u8 (n : Int)]
/-- Statements of which the elements are the call's own. -/
theorem stsOwn {W w : World} {L L' : List Ent} {v u : Value} {ss : List StI} {i : Nat} (h : IsSts W u ss) (hO : Own W w L) (hat : At (row 28 3 v ((numT i ss).map stC)) (isl 3 v ((numT i ss).map stC)) L L') : IsSts w v (numT i ss) :=
  ⟨(hO.read hat (stC_len _)).has _ hat.memY, fun s hs => by
    obtain ⟨t, ht, e1, e2⟩ := numT_rows hs
    rw [e1, e2]
    exact (h.r t ht).below hO.grown (h.r t ht).lt⟩
theorem nilSts (w : World) : IsSts w (.slice none 0 0) [] := ⟨.none _ _ (fun _ => rfl), fun s hs => by cases hs⟩
theorem oldTurn {W : World} {v : Value} {ns : List Nat} {p : Option Addr} {n c : Nat} (h : IsL W 1 v (ns.map turnC)) (e : v = .slice p n c) {j : Nat} (hj : j < ns.length) : ∃ a, p = some a ∧ ∀ w', Below W.heap.size W w' → w'.cell? (a.add j) = some (.int .u8 (ns[j] : Int)) := by
  obtain ⟨a, cap, h1, _, _, hR⟩ := h.at (by rw [List.length_map]; omega)
  rw [e] at h1
  cases h1
  refine ⟨a, rfl, fun w' hb => ?_⟩
  have := hR.c0 j (by simpa using hj) (.int .u8 (ns[j] : Int)) (by simp [turnC])
  rw [Nat.mul_one] at this
  rw [← this]
  exact hb.cell (by rw [lBlock]; exact hR.lt)
theorem stC_one {ss : List StI} (h : ∀ s ∈ ss, ∃ p n c, s.v = .slice p n c) : ∀ u ∈ (ss.map stC).flatten, u.oneCell' = true := by
  intro u hu
  obtain ⟨l, hl, hu⟩ := List.mem_flatten.1 hu
  obtain ⟨s, hs, rfl⟩ := List.mem_map.1 hl
  obtain ⟨p, n, c, e⟩ := h s hs
  simp only [stC, e, List.mem_cons, List.not_mem_nil, or_false] at hu
  rcases hu with rfl | rfl | rfl <;> rfl
theorem stC_lenN (i : Nat) (ss : List StI) (f : Nat) (u : Value) : ∀ l ∈ (((numT i ss).map stC).set f ((stC (ss[f]?.getD ⟨0, 0, .slice none 0 0, []⟩)).set 1 u)), l.length = 3 := fun l hl => by
  rcases List.mem_or_eq_of_mem_set hl with h | rfl
  · exact stC_len _ l h
  · rfl
def OrdRel (w0 : World) (own : List StI) (b7 b9 : Nat) (A : InS) (s0 s1 s2 : Option Addr) (c0 c1 c2 : Nat) (m : Option Nat) (T : List StI) (w : World) : Prop :=
  ∃ (B : InS) (u0 u1 u2 : Option Addr) (e0 e1 e2 : Nat) (mb : Option Nat), Best T B ∧ InOk B ∧ (∀ s ∈ T, s ∈ own) ∧ Own w0 w [box b9 (.cells #[.int .i64 B.p0, .int .i64 B.q0, .slice u0 B.r0.length e0, .int .i64 B.p1, .int .i64 B.q1, .slice u1 B.r1.length e1, .int .i64 B.p2, .int .i64 B.q2, .slice u2 B.r2.length e2, .map mb] 32), box b7 (.cells #[.int .i64 A.p0, .int .i64 A.q0, .slice s0 A.r0.length c0, .int .i64 A.p1, .int .i64 A.q1, .slice s1 A.r1.length c1, .int .i64 A.p2, .int .i64 A.q2, .slice s2 A.r2.length c2, .map m] 32), isl 5 (.slice u0 B.r0.length e0) (B.r0.map rowC), isl 5 (.slice u1 B.r1.length e1) (B.r1.map rowC), isl 5 (.slice u2 B.r2.length e2) (B.r2.map rowC), isl 5 (.slice s0 A.r0.length c0) (A.r0.map rowC), isl 5 (.slice s1 A.r1.length c1) (A.r1.map rowC), isl 5 (.slice s2 A.r2.length c2) (A.r2.map rowC)]

set_option maxHeartbeats 16000000 in
set_option maxRecDepth 100000 in
theorem intakeOrder_any {W : World} {v vt : Value} {ss : List StI} {ns : List Nat} (h : IsSts W v ss) (ht : IsL W 1 vt (ns.map turnC)) (hn : ∀ n ∈ ns, n ≤ 255) (hL : Laid W) :
    Calls Tryd.prog 3 #[v, vt] W fun e w' => e = .returned (.bool true) ∧ Below W.heap.size W w' := by
  have hLW := fun w (hb : Below W.heap.size W w) => hL.below hb hL.1
  have TK := fun w (hb : Below W.heap.size W w) => taken_any w (hLW w hb)
  have GR := fun w (hb : Below W.heap.size W w) => great21_any 20 (h.below hb)
  have HL := Lib.hid hLW
  have HH := Lib.hid h
  have HT := Lib.hid ht
  have HN := Lib.hid hn
  have H1 := Lib.hid (stC_one (ss := ss) (fun s hs => by obtain ⟨p, c, e, _⟩ := (h.r s hs).slice; exact ⟨p, _, c, e⟩))
  obtain ⟨sp, sc, rfl, hmx⟩ := h.l.slice
  obtain ⟨tp, tc, rfl, hmt⟩ := ht.slice
  rw [List.length_map] at hmx hmt HH HT GR ⊢
  rw [List.length_map]
  have hmt' : (ns.length : Int) ≤ 9223372036854775807 := by unfold maxLen at hmt; omega
  have HO := Own.start W
  clear h ht hn hL hLW
  cases hg : greatS ss 20
  rotate_left
  · rw [hg] at GR
    go_enter Tryd.func3, Tryd.ntmps3
    go_wp2_with (first | (first | go_big_skip | ((with_reducible apply wpList_loadAll HO); exact rfl; exact rfl; (repeat (with_reducible (first | exact At.head _ | apply At.tail))); infer_instance; exact rfl; exact rfl; (simp only [Act.put, List.setIfInBounds_toArray, List.set_cons_succ, List.set_cons_zero])) | ((with_reducible apply wpList_loadOne HO); exact rfl; exact rfl; (repeat (with_reducible (first | exact At.head _ | apply At.tail))); exact rfl; infer_instance; exact rfl; (simp only [Act.put, List.setIfInBounds_toArray, List.set_cons_succ, List.set_cons_zero]))) | (go_at_call 11; go_must ((with_reducible refine (GR _ HO.grown).mono ?_); rintro e w ⟨rfl, hb⟩; replace HO := HO.call hb; clear hb)) | (go_at_call 12; go_must ((with_reducible refine (TK _ HO.grown).mono ?_); rintro e w ⟨rfl, hb⟩; replace HO := HO.call hb; clear hb)))
    go_ret
    exact ⟨rfl, HO.grown⟩
  rw [hg] at GR
  obtain ⟨hlen, -⟩ := greatS_no hg
  clear hg
  by_cases ht60 : 60 < ns.length
  · have ht60' : (60 : Int) < (ns.length : Int) := by omega
    go_enter Tryd.func3, Tryd.ntmps3
    go_wp2_with (first | (first | go_big_skip | ((with_reducible apply wpList_loadAll HO); exact rfl; exact rfl; (repeat (with_reducible (first | exact At.head _ | apply At.tail))); infer_instance; exact rfl; exact rfl; (simp only [Act.put, List.setIfInBounds_toArray, List.set_cons_succ, List.set_cons_zero])) | ((with_reducible apply wpList_loadOne HO); exact rfl; exact rfl; (repeat (with_reducible (first | exact At.head _ | apply At.tail))); exact rfl; infer_instance; exact rfl; (simp only [Act.put, List.setIfInBounds_toArray, List.set_cons_succ, List.set_cons_zero]))) | (go_at_call 11; go_must ((with_reducible refine (GR _ HO.grown).mono ?_); rintro e w ⟨rfl, hb⟩; replace HO := HO.call hb; clear hb)) | (go_at_call 12; go_must ((with_reducible refine (TK _ HO.grown).mono ?_); rintro e w ⟨rfl, hb⟩; replace HO := HO.call hb; clear hb)))
    go_ret
    exact ⟨rfl, HO.grown⟩
  have ht60' : decide ((60 : Int) < (ns.length : Int)) = false := by simp; omega
  replace HO := HO.nil 28 3
  go_enter Tryd.func3, Tryd.ntmps3
  go_wp2_with (first | ((with_reducible apply wpList_appendAll HO); exact rfl; infer_instance; infer_instance; (first | (simp [Act.eval]; rfl) | exact rfl); exact rfl; exact HH.out.l.below HO.grown HH.out.l.lt; exact stC_len _; exact H1.out; intro _; (repeat (with_reducible (first | exact At.head _ | apply At.tail))); (simp; omega); decide; exact rfl; clear HO; intro v2 w HO hv2; clear hv2; (obtain ⟨⟨su, cu, rfl⟩, -⟩ := HO.rowForm (v := v2) (by (repeat (with_reducible (first | exact At.head _ | apply At.tail))))); simp only [List.nil_append, List.length_map] at HO ⊢; (simp only [Act.put, List.setIfInBounds_toArray, List.set_cons_succ, List.set_cons_zero])) | (first | go_big_skip | ((with_reducible apply wpList_loadAll HO); exact rfl; exact rfl; (repeat (with_reducible (first | exact At.head _ | apply At.tail))); infer_instance; exact rfl; exact rfl; (simp only [Act.put, List.setIfInBounds_toArray, List.set_cons_succ, List.set_cons_zero])) | ((with_reducible apply wpList_loadOne HO); exact rfl; exact rfl; (repeat (with_reducible (first | exact At.head _ | apply At.tail))); exact rfl; infer_instance; exact rfl; (simp only [Act.put, List.setIfInBounds_toArray, List.set_cons_succ, List.set_cons_zero]))) | (go_at_call 11; go_must ((with_reducible refine (GR _ HO.grown).mono ?_); rintro e w ⟨rfl, hb⟩; replace HO := HO.call hb; clear hb)))
  clear GR H1 TK
  have HO2 : Own W w [row 28 3 (.slice su ss.length cu) ((numT 0 ss).map stC)] := by rw [numT_zero]; exact HO
  clear HO
  go_loopw [6] (fun i wr => ∃ j : Nat, j ≤ ss.length ∧ i = .int .i64 (j : Int) ∧ Own W wr [row 28 3 (.slice su ss.length cu) ((numT j ss).map stC)]) (fun i _ => ss.length - (intOf i).toNat)
  case atStart => exact ⟨0, by omega, rfl, HO2⟩
  case round =>
    clear HO2
    obtain ⟨j, hj, rfl, HO⟩ := hrel
    by_cases hjl : j < ss.length
    · have hjI : (j : Int) < (ss.length : Int) := by omega
      have HS := Lib.hid (numT_set hjl)
      have HG := Lib.hid (show ((numT j ss).map stC)[j]? = some (stC ss[j]) by rw [List.getElem?_eq_getElem (by rw [List.length_map, numT_len]; exact hjl), List.getElem_map, numT_get hjl])
      obtain ⟨a, rfl⟩ : ∃ a, su = some a := by
        obtain ⟨q, c, e⟩ := (HO.rowForm (.head _)).2 (by rw [List.length_map, numT_len]; omega)
        rw [List.length_map, numT_len] at e
        cases e
        exact ⟨_, rfl⟩
      have e1 : IntKind.i64.wrap (1 + (j : Int)) = (j : Int) + 1 := by rw [show (1 : Int) + (j : Int) = ((j + 1 : Nat) : Int) by omega]; exact wrap_n _ (by omega)
      go_wp2_with (first | ((with_reducible apply wpList_storeRow1 (q := a) (i := j) (k := 3) (f := 1) (n := ss.length) (c := cu) HO); exact rfl; exact rfl; (first | (simp [Act.eval]; rfl) | exact rfl); exact rfl; exact HG.out; decide; (repeat (with_reducible (first | exact At.head _ | apply At.tail))); exact stC_len _; infer_instance; exact rfl; clear HO; intro w HO; (simp only [Act.put])) | (first | go_big_skip | ((with_reducible apply wpList_loadAll HO); exact rfl; exact rfl; (repeat (with_reducible (first | exact At.head _ | apply At.tail))); infer_instance; exact rfl; exact rfl; (simp only [Act.put, List.setIfInBounds_toArray, List.set_cons_succ, List.set_cons_zero])) | ((with_reducible apply wpList_loadOne HO); exact rfl; exact rfl; (repeat (with_reducible (first | exact At.head _ | apply At.tail))); exact rfl; infer_instance; exact rfl; (simp only [Act.put, List.setIfInBounds_toArray, List.set_cons_succ, List.set_cons_zero]))))
      rw [HS.out] at HO
      go_roundw
      case rel => exact ⟨j + 1, by omega, by go_num, HO⟩
      case measure => simp [intOf] <;> omega
    obtain rfl : j = ss.length := by omega
    obtain ⟨WB, hWB⟩ : ∃ x, x = wr := ⟨_, rfl⟩
    subst hWB
    have hS := stsOwn HH.out HO (.head _)
    have hb1 := HO.grown
    have hs1 := hb1.size
    have hT1 := HT.out.below hb1 HT.out.lt
    have hL1 := fun w' (hb' : Below WB.heap.size WB w') => HL.out w' (hb1.trans (hb'.mono hs1))
    clear HH HT HL
    have HH := Lib.hid hS
    have HT := Lib.hid hT1
    have HL := Lib.hid hL1
    have HB1 := Lib.hid hb1
    have OF1 := fun w (hb : Below WB.heap.size WB w) => of_any (hS.below hb) (hL1 w hb)
    have OF2 := fun w (hb : Below WB.heap.size WB w) => of_any (ss := []) (nilSts w) (hL1 w hb)
    clear HO hS hb1 hs1 hT1 hL1
    have HO := Own.start WB
    have hol : (numT ss.length ss).length = ss.length := numT_len _ _
    generalize hown : numT ss.length ss = own at HH OF1 hol
    replace hown := Lib.hid hown
    generalize hFA : foldI zeroI own = FA at OF1
    replace hFA := Lib.hid hFA
    go_upto_region 9 with (first | (go_at_call 13; go_must ((with_reducible refine (OF1 _ HO.grown).mono ?_); rintro e w ⟨A, s0, s1, s2, t0, t1, t2, c0, c1, c2, d0, d1, d2, m, hE, hAok, -, -, -, HO1, rfl⟩; replace HO := HO.lift HO1; clear HO1; simp only [List.cons_append, List.nil_append] at HO; replace hE := Lib.hid hE; have HA := hE; clear hE)) | ((have _h : Own _ _ (box _ _ :: _) := HO); clear _h; ((with_reducible apply wpList_allocAgg _ HO rfl); exact rfl; infer_instance; exact rfl; clear HO; intro b8 w HO; (simp only [Act.put, List.setIfInBounds_toArray, List.set_cons_succ, List.set_cons_zero]))) | ((with_reducible apply wpList_allocAgg _ HO rfl); exact rfl; infer_instance; exact rfl; clear HO; intro b7 w HO; (simp only [Act.put, List.setIfInBounds_toArray, List.set_cons_succ, List.set_cons_zero])) | ((with_reducible apply wpList_storeAll HO); exact rfl; exact rfl; exact rfl; (repeat (with_reducible (first | exact At.head _ | apply At.tail))); infer_instance; exact rfl; exact rfl; exact rfl; exact rfl; clear HO; intro w HO; (simp only [Act.put])) | (first | go_big_skip | ((with_reducible apply wpList_loadAll HO); exact rfl; exact rfl; (repeat (with_reducible (first | exact At.head _ | apply At.tail))); infer_instance; exact rfl; exact rfl; (simp only [Act.put, List.setIfInBounds_toArray, List.set_cons_succ, List.set_cons_zero])) | ((with_reducible apply wpList_loadOne HO); exact rfl; exact rfl; (repeat (with_reducible (first | exact At.head _ | apply At.tail))); exact rfl; infer_instance; exact rfl; (simp only [Act.put, List.setIfInBounds_toArray, List.set_cons_succ, List.set_cons_zero]))))
    go_wp2_with (first | (go_at_call 13; go_must ((with_reducible refine (OF2 _ HO.grown).mono ?_); rintro e w ⟨B, u0, u1, u2, t0, t1, t2, e0, e1, e2, d0, d1, d2, mb, hE, hBok, -, -, -, HO1, rfl⟩; replace HO := HO.lift HO1; clear HO1; simp only [List.cons_append, List.nil_append] at HO; replace hE := Lib.hid hE; have HB := hE; clear hE)) | ((have _h : Own _ _ (box _ _ :: _) := HO); clear _h; ((with_reducible apply wpList_allocAgg _ HO rfl); exact rfl; infer_instance; exact rfl; clear HO; intro b10 w HO; (simp only [Act.put, List.setIfInBounds_toArray, List.set_cons_succ, List.set_cons_zero]))) | ((with_reducible apply wpList_allocAgg _ HO rfl); exact rfl; infer_instance; exact rfl; clear HO; intro b9 w HO; (simp only [Act.put, List.setIfInBounds_toArray, List.set_cons_succ, List.set_cons_zero])) | ((with_reducible apply wpList_storeAll HO); exact rfl; exact rfl; exact rfl; (repeat (with_reducible (first | exact At.head _ | apply At.tail))); infer_instance; exact rfl; exact rfl; exact rfl; exact rfl; clear HO; intro w HO; (simp only [Act.put])) | (first | go_big_skip | ((with_reducible apply wpList_loadAll HO); exact rfl; exact rfl; (repeat (with_reducible (first | exact At.head _ | apply At.tail))); infer_instance; exact rfl; exact rfl; (simp only [Act.put, List.setIfInBounds_toArray, List.set_cons_succ, List.set_cons_zero])) | ((with_reducible apply wpList_loadOne HO); exact rfl; exact rfl; (repeat (with_reducible (first | exact At.head _ | apply At.tail))); exact rfl; infer_instance; exact rfl; (simp only [Act.put, List.setIfInBounds_toArray, List.set_cons_succ, List.set_cons_zero]))))
    have HR : ∃ T, OrdRel WB own b7 b9 A s0 s1 s2 c0 c1 c2 m T w := ⟨[], B, u0, u1, u2, e0, e1, e2, mb, by rw [HB.out]; exact best_nil, hBok, (fun s hs => by cases hs), (HO.sub (by exact .cons _ (.cons_cons _ (.cons_cons _ (.cons_cons _ (.cons_cons _ (.cons _ (.cons _ (.cons_cons _ (.cons_cons _ (.cons_cons _ (.cons_cons _ (.cons _ (List.Sublist.refl _)))))))))))))).perm ((List.perm_middle (l₁ := [_, _, _]) (l₂ := [_, _, _])).cons _)⟩
    clear OF1 OF2 HO HB
    go_loopw [11] (fun i wr2 => ∃ j : Nat, j ≤ ns.length ∧ i = .int .i64 (j : Int) ∧ ∃ T, OrdRel WB own b7 b9 A s0 s1 s2 c0 c1 c2 m T wr2) (fun i _ => ns.length - (intOf i).toNat)
    case atStart => exact ⟨0, by omega, rfl, HR⟩
    case round =>
      clear HR
      have HR0 := trivial
      obtain ⟨j, hj, rfl, T, B, u0, u1, u2, e0, e1, e2, mb, hBest, hBok, hTs, HO⟩ := hrel
      by_cases hgo : j < ns.length ∧ 0 < ss.length
      rotate_left
      · clear HR0
        go_upto_region 11 with fail
        go_cut [56] (fun x wx => x = .bool false ∧ Own WB wx [box b9 (.cells #[.int .i64 B.p0, .int .i64 B.q0, .slice u0 B.r0.length e0, .int .i64 B.p1, .int .i64 B.q1, .slice u1 B.r1.length e1, .int .i64 B.p2, .int .i64 B.q2, .slice u2 B.r2.length e2, .map mb] 32), box b7 (.cells #[.int .i64 A.p0, .int .i64 A.q0, .slice s0 A.r0.length c0, .int .i64 A.p1, .int .i64 A.q1, .slice s1 A.r1.length c1, .int .i64 A.p2, .int .i64 A.q2, .slice s2 A.r2.length c2, .map m] 32), isl 5 (.slice u0 B.r0.length e0) (B.r0.map rowC), isl 5 (.slice u1 B.r1.length e1) (B.r1.map rowC), isl 5 (.slice u2 B.r2.length e2) (B.r2.map rowC), isl 5 (.slice s0 A.r0.length c0) (A.r0.map rowC), isl 5 (.slice s1 A.r1.length c1) (A.r1.map rowC), isl 5 (.slice s2 A.r2.length c2) (A.r2.map rowC)])
        case first =>
          by_cases hjl : j < ns.length
          · have h1 : (j : Int) < (ns.length : Int) := by omega
            have h2 : ¬ ((0 : Int) < (ss.length : Int)) := by omega
            have h3 : ¬ (0 < ss.length) := by omega
            go_wp2_with fail
            go_meet
            exact ⟨rfl, HO⟩
          · have h1 : ¬ ((j : Int) < (ns.length : Int)) := by omega
            go_wp2_with fail
            go_meet
            exact ⟨rfl, HO⟩
        clear HO
        obtain ⟨rfl, HO⟩ := hcut
        have hsi : IntKind.i64.wrap ((ss.length : Int) - 1) = (ss.length : Int) - 1 := by rw [IntKind.wrap_i64]; omega
        go_wp2_with fail
        have HR : ∃ T, (∀ s ∈ own.drop ss.length, s ∈ T) ∧ OrdRel WB own b7 b9 A s0 s1 s2 c0 c1 c2 m T wc := ⟨T, (fun s hs => by rw [List.drop_of_length_le (by omega)] at hs; cases hs), B, u0, u1, u2, e0, e1, e2, mb, hBest, hBok, hTs, HO⟩
        clear HO hgo hj
        go_loopw [14] (fun i wr2 => ∃ j : Nat, j ≤ ss.length ∧ i = .int .i64 ((j : Int) - 1) ∧ ∃ T, (∀ s ∈ own.drop j, s ∈ T) ∧ OrdRel WB own b7 b9 A s0 s1 s2 c0 c1 c2 m T wr2) (fun i _ => (intOf i + 1).toNat)
        case atStart => exact ⟨ss.length, by omega, by go_num, HR⟩
        case round =>
          clear HR hBest hBok hTs
          obtain ⟨j, hj, rfl, T, hdr, B, u0, u1, u2, e0, e1, e2, mb, hBest, hBok, hTs, HO⟩ := hrel
          rcases j with _ | k
          · have hAB : A = B := by
              rw [HA.out, ← hFA.out, ← hown.out]
              exact ord_same hBest (by rw [hown.out]; exact hTs) (by rw [hown.out]; exact fun s hs => hdr s (by simpa using hs))
            clear hdr hBest hTs HA HH HT
            obtain rfl := hAB
            have SM1 : ∀ w, Own WB w [box b9 (.cells #[.int .i64 A.p0, .int .i64 A.q0, .slice u0 A.r0.length e0, .int .i64 A.p1, .int .i64 A.q1, .slice u1 A.r1.length e1, .int .i64 A.p2, .int .i64 A.q2, .slice u2 A.r2.length e2, .map mb] 32), box b7 (.cells #[.int .i64 A.p0, .int .i64 A.q0, .slice s0 A.r0.length c0, .int .i64 A.p1, .int .i64 A.q1, .slice s1 A.r1.length c1, .int .i64 A.p2, .int .i64 A.q2, .slice s2 A.r2.length c2, .map m] 32), isl 5 (.slice u0 A.r0.length e0) (A.r0.map rowC), isl 5 (.slice u1 A.r1.length e1) (A.r1.map rowC), isl 5 (.slice u2 A.r2.length e2) (A.r2.map rowC), isl 5 (.slice s0 A.r0.length c0) (A.r0.map rowC), isl 5 (.slice s1 A.r1.length c1) (A.r1.map rowC), isl 5 (.slice s2 A.r2.length c2) (A.r2.map rowC)] → Calls Tryd.prog 15 #[.agg #[.int .i64 A.p0, .int .i64 A.q0, .slice s0 A.r0.length c0, .int .i64 A.p1, .int .i64 A.q1, .slice s1 A.r1.length c1, .int .i64 A.p2, .int .i64 A.q2, .slice s2 A.r2.length c2, .map m], .agg #[.int .i64 A.p0, .int .i64 A.q0, .slice u0 A.r0.length e0, .int .i64 A.p1, .int .i64 A.q1, .slice u1 A.r1.length e1, .int .i64 A.p2, .int .i64 A.q2, .slice u2 A.r2.length e2, .map mb]] w fun e w' => e = .returned (.bool true) ∧ Below w.heap.size w w' := fun w h1 => by
              have := intSame_any A A (ownIsl h1 (.tail _ _ _ (.tail _ _ _ (.tail _ _ _ (.tail _ _ _ (.tail _ _ _ (.head _))))))) (ownIsl h1 (.tail _ _ _ (.tail _ _ _ (.tail _ _ _ (.tail _ _ _ (.tail _ _ _ (.tail _ _ _ (.head _)))))))) (ownIsl h1 (.tail _ _ _ (.tail _ _ _ (.tail _ _ _ (.tail _ _ _ (.tail _ _ _ (.tail _ _ _ (.tail _ _ _ (.head _))))))))) (ownIsl h1 (.tail _ _ _ (.tail _ _ _ (.head _)))) (ownIsl h1 (.tail _ _ _ (.tail _ _ _ (.tail _ _ _ (.head _))))) (ownIsl h1 (.tail _ _ _ (.tail _ _ _ (.tail _ _ _ (.tail _ _ _ (.head _)))))) (mapForm m) (mapForm mb)
              rwa [sameI_self] at this
            have SM2 : ∀ w, Own WB w [box b9 (.cells #[.int .i64 A.p0, .int .i64 A.q0, .slice u0 A.r0.length e0, .int .i64 A.p1, .int .i64 A.q1, .slice u1 A.r1.length e1, .int .i64 A.p2, .int .i64 A.q2, .slice u2 A.r2.length e2, .map mb] 32), box b7 (.cells #[.int .i64 A.p0, .int .i64 A.q0, .slice s0 A.r0.length c0, .int .i64 A.p1, .int .i64 A.q1, .slice s1 A.r1.length c1, .int .i64 A.p2, .int .i64 A.q2, .slice s2 A.r2.length c2, .map m] 32), isl 5 (.slice u0 A.r0.length e0) (A.r0.map rowC), isl 5 (.slice u1 A.r1.length e1) (A.r1.map rowC), isl 5 (.slice u2 A.r2.length e2) (A.r2.map rowC), isl 5 (.slice s0 A.r0.length c0) (A.r0.map rowC), isl 5 (.slice s1 A.r1.length c1) (A.r1.map rowC), isl 5 (.slice s2 A.r2.length c2) (A.r2.map rowC)] → Calls Tryd.prog 15 #[.agg #[.int .i64 A.p0, .int .i64 A.q0, .slice u0 A.r0.length e0, .int .i64 A.p1, .int .i64 A.q1, .slice u1 A.r1.length e1, .int .i64 A.p2, .int .i64 A.q2, .slice u2 A.r2.length e2, .map mb], .agg #[.int .i64 A.p0, .int .i64 A.q0, .slice s0 A.r0.length c0, .int .i64 A.p1, .int .i64 A.q1, .slice s1 A.r1.length c1, .int .i64 A.p2, .int .i64 A.q2, .slice s2 A.r2.length c2, .map m]] w fun e w' => e = .returned (.bool true) ∧ Below w.heap.size w w' := fun w h1 => by
              have := intSame_any A A (ownIsl h1 (.tail _ _ _ (.tail _ _ _ (.head _)))) (ownIsl h1 (.tail _ _ _ (.tail _ _ _ (.tail _ _ _ (.head _))))) (ownIsl h1 (.tail _ _ _ (.tail _ _ _ (.tail _ _ _ (.tail _ _ _ (.head _)))))) (ownIsl h1 (.tail _ _ _ (.tail _ _ _ (.tail _ _ _ (.tail _ _ _ (.tail _ _ _ (.head _))))))) (ownIsl h1 (.tail _ _ _ (.tail _ _ _ (.tail _ _ _ (.tail _ _ _ (.tail _ _ _ (.tail _ _ _ (.head _)))))))) (ownIsl h1 (.tail _ _ _ (.tail _ _ _ (.tail _ _ _ (.tail _ _ _ (.tail _ _ _ (.tail _ _ _ (.tail _ _ _ (.head _))))))))) (mapForm mb) (mapForm m)
              rwa [sameI_self] at this
            have TK := fun w (hb : Below WB.heap.size WB w) => taken_any w (HL.out w hb)
            go_wp2_with (first | (first | go_big_skip | ((with_reducible apply wpList_loadAll HO); exact rfl; exact rfl; (repeat (with_reducible (first | exact At.head _ | apply At.tail))); infer_instance; exact rfl; exact rfl; (simp only [Act.put, List.setIfInBounds_toArray, List.set_cons_succ, List.set_cons_zero])) | ((with_reducible apply wpList_loadOne HO); exact rfl; exact rfl; (repeat (with_reducible (first | exact At.head _ | apply At.tail))); exact rfl; infer_instance; exact rfl; (simp only [Act.put, List.setIfInBounds_toArray, List.set_cons_succ, List.set_cons_zero]))) | (go_at_call 15; ((with_reducible refine (SM1 _ HO).mono ?_); (rintro e w ⟨rfl, hb⟩; replace HO := HO.call hb; clear hb))) | (go_at_call 15; ((with_reducible refine (SM2 _ HO).mono ?_); (rintro e w ⟨rfl, hb⟩; replace HO := HO.call hb; clear hb))) | (go_at_call 12; go_must ((with_reducible refine (TK _ HO.grown).mono ?_); rintro e w ⟨rfl, hb⟩; replace HO := HO.call hb; clear hb)))
            go_ret
            exact ⟨rfl, HB1.out.trans (HO.grown.mono HB1.out.size)⟩
          have hkv : ((k + 1 : Nat) : Int) - 1 = (k : Int) := by omega
          rw [hkv]
          clear hkv
          have hk : k < own.length := by omega
          have hkI : (k : Int) < (ss.length : Int) := by omega
          have hkw : IntKind.i64.wrap ((k : Int) - 1) = (k : Int) - 1 := by rw [IntKind.wrap_i64]; omega
          obtain ⟨a, rfl, hst⟩ := oldSt HH.out rfl hk
          have hrow := HH.out.r own[k] (List.getElem_mem hk)
          obtain ⟨T', hB2, hT1, hT3⟩ : ∃ T', Best T' (stepI B own[k].p own[k].q own[k].rs) ∧ (∀ s ∈ T', s ∈ own) ∧ (∀ s ∈ own.drop k, s ∈ T') := ⟨T ++ [own[k]], best_step hBest own[k], fun s hs => by
            rcases List.mem_append.1 hs with hs | hs
            · exact hTs s hs
            · obtain rfl := List.mem_singleton.1 hs
              exact List.getElem_mem hk, fun s hs => by
            rw [List.drop_eq_getElem_cons hk] at hs
            rcases List.mem_cons.1 hs with rfl | hs
            · exact List.mem_append_right _ (List.mem_singleton.2 rfl)
            · exact List.mem_append_left _ (hdr s hs)⟩
          clear hBest hTs hdr
          generalize own[k] = st at *
          obtain ⟨p, q, v, rs⟩ := st
          simp only [stC] at hrow hst hB2
          obtain ⟨sv, cv, rfl, -⟩ := hrow.slice
          have HRW := Lib.hid hrow
          replace hst := Lib.hid hst
          clear hrow
          have HBN := Lib.hid hB2
          clear hB2
          have AC0 : ∀ w, Own WB w [box b9 (.cells #[.int .i64 B.p0, .int .i64 B.q0, .slice u0 B.r0.length e0, .int .i64 B.p1, .int .i64 B.q1, .slice u1 B.r1.length e1, .int .i64 B.p2, .int .i64 B.q2, .slice u2 B.r2.length e2, .map mb] 32), box b7 (.cells #[.int .i64 A.p0, .int .i64 A.q0, .slice s0 A.r0.length c0, .int .i64 A.p1, .int .i64 A.q1, .slice s1 A.r1.length c1, .int .i64 A.p2, .int .i64 A.q2, .slice s2 A.r2.length c2, .map m] 32), isl 5 (.slice u0 B.r0.length e0) (B.r0.map rowC), isl 5 (.slice u1 B.r1.length e1) (B.r1.map rowC), isl 5 (.slice u2 B.r2.length e2) (B.r2.map rowC), isl 5 (.slice s0 A.r0.length c0) (A.r0.map rowC), isl 5 (.slice s1 A.r1.length c1) (A.r1.map rowC), isl 5 (.slice s2 A.r2.length c2) (A.r2.map rowC)] → Calls Tryd.prog 14 #[.agg #[.int .i64 B.p0, .int .i64 B.q0, .slice u0 B.r0.length e0, .int .i64 B.p1, .int .i64 B.q1, .slice u1 B.r1.length e1, .int .i64 B.p2, .int .i64 B.q2, .slice u2 B.r2.length e2, .map mb], .agg #[.int .i64 p, .int .i64 q, .slice sv rs.length cv]] w (AccPost B p q rs (.slice u0 B.r0.length e0) (.slice u1 B.r1.length e1) (.slice u2 B.r2.length e2) w) := fun w h1 => accept_any B p q rs (ownIsl h1 (.tail _ _ _ (.tail _ _ _ (.head _)))) (ownIsl h1 (.tail _ _ _ (.tail _ _ _ (.tail _ _ _ (.head _))))) (ownIsl h1 (.tail _ _ _ (.tail _ _ _ (.tail _ _ _ (.tail _ _ _ (.head _)))))) (HRW.out.below h1.grown HRW.out.lt) hBok (mapForm mb) (HL.out _ h1.grown)
          by_cases hacc : accE B p q rs = 0
          rotate_left
          · have AC : ∀ w, Own WB w [box b9 (.cells #[.int .i64 B.p0, .int .i64 B.q0, .slice u0 B.r0.length e0, .int .i64 B.p1, .int .i64 B.q1, .slice u1 B.r1.length e1, .int .i64 B.p2, .int .i64 B.q2, .slice u2 B.r2.length e2, .map mb] 32), box b7 (.cells #[.int .i64 A.p0, .int .i64 A.q0, .slice s0 A.r0.length c0, .int .i64 A.p1, .int .i64 A.q1, .slice s1 A.r1.length c1, .int .i64 A.p2, .int .i64 A.q2, .slice s2 A.r2.length c2, .map m] 32), isl 5 (.slice u0 B.r0.length e0) (B.r0.map rowC), isl 5 (.slice u1 B.r1.length e1) (B.r1.map rowC), isl 5 (.slice u2 B.r2.length e2) (B.r2.map rowC), isl 5 (.slice s0 A.r0.length c0) (A.r0.map rowC), isl 5 (.slice s1 A.r1.length c1) (A.r1.map rowC), isl 5 (.slice s2 A.r2.length c2) (A.r2.map rowC)] → Calls Tryd.prog 14 #[.agg #[.int .i64 B.p0, .int .i64 B.q0, .slice u0 B.r0.length e0, .int .i64 B.p1, .int .i64 B.q1, .slice u1 B.r1.length e1, .int .i64 B.p2, .int .i64 B.q2, .slice u2 B.r2.length e2, .map mb], .agg #[.int .i64 p, .int .i64 q, .slice sv rs.length cv]] w fun e w' => e = .returned (.tuple #[.agg #[.int .i64 0, .int .i64 0, .slice none 0 0, .int .i64 0, .int .i64 0, .slice none 0 0, .int .i64 0, .int .i64 0, .slice none 0 0, .map none], .int .i64 (accE B p q rs)]) ∧ Below w.heap.size w w' := fun w h1 => (AC0 w h1).mono (fun e w' he => by
              unfold AccPost at he
              rw [if_neg hacc] at he
              exact he)
            have hc1 : (accE B p q rs == 0) = false := by simpa using hacc
            have HS := Lib.hid (show Best T' B by have := HBN.out; rwa [stepI, if_neg hacc] at this)
            clear AC0 hacc HBN
            generalize accE B p q rs = ce at *
            go_upto_region 20 with fail
            go_cut [16] (fun e wx => e = .int .i64 ce ∧ Own WB wx [box b9 (.cells #[.int .i64 B.p0, .int .i64 B.q0, .slice u0 B.r0.length e0, .int .i64 B.p1, .int .i64 B.q1, .slice u1 B.r1.length e1, .int .i64 B.p2, .int .i64 B.q2, .slice u2 B.r2.length e2, .map mb] 32), box b7 (.cells #[.int .i64 A.p0, .int .i64 A.q0, .slice s0 A.r0.length c0, .int .i64 A.p1, .int .i64 A.q1, .slice s1 A.r1.length c1, .int .i64 A.p2, .int .i64 A.q2, .slice s2 A.r2.length c2, .map m] 32), isl 5 (.slice u0 B.r0.length e0) (B.r0.map rowC), isl 5 (.slice u1 B.r1.length e1) (B.r1.map rowC), isl 5 (.slice u2 B.r2.length e2) (B.r2.map rowC), isl 5 (.slice s0 A.r0.length c0) (A.r0.map rowC), isl 5 (.slice s1 A.r1.length c1) (A.r1.map rowC), isl 5 (.slice s2 A.r2.length c2) (A.r2.map rowC)])
            case first =>
              refine region_treeO [box b9 (.cells #[.int .i64 B.p0, .int .i64 B.q0, .slice u0 B.r0.length e0, .int .i64 B.p1, .int .i64 B.q1, .slice u1 B.r1.length e1, .int .i64 B.p2, .int .i64 B.q2, .slice u2 B.r2.length e2, .map mb] 32)] [(0, true), (1, true), (2, true), (3, true), (4, true), (6, true), (7, true), (8, true), (11, true)] (.fork [(0, true), (1, true), (2, true), (3, true), (4, true)] 5 9 (.fin [(6, true), (7, true), (8, true), (9, false), (10, false), (11, true)]) (.fin [(5, false), (6, true), (7, true), (8, true), (10, false), (11, true)])) HO (by with_reducible (repeat (first | exact List.nil_sublist _ | apply List.Sublist.cons_cons | apply List.Sublist.cons))) (by kernel_rfl) (by kernel_rfl) ?_
              clear HO
              intro w HO
              refine wpS_fork ?_
              repeat (first | ((with_reducible apply wpSched_loadAll); exact rfl; exact rfl; exact rfl; (repeat (with_reducible (first | exact At.head _ | apply At.tail))); infer_instance; exact rfl; exact rfl; (simp only [Act.put, List.setIfInBounds_toArray, List.set_cons_succ, List.set_cons_zero])) | ((with_reducible apply wpSched_loadAt); exact rfl; exact rfl; exact rfl; exact (fun w' hw => hst.out w' (hw _ List.mem_cons_self)); infer_instance; exact rfl; exact rfl; (simp only [Act.put, List.setIfInBounds_toArray, List.set_cons_succ, List.set_cons_zero])) | ((with_reducible apply wpSched_pure); exact rfl; exact rfl; (intro w'; go_simp; try with_reducible rfl); (simp only [Act.put, List.setIfInBounds_toArray, List.set_cons_succ, List.set_cons_zero])))
              refine fork_end rfl rfl ?_ ?_
              · go_wp2_with ((go_at_call 14; go_must (((with_reducible refine (AC _ HO).mono ?_); (rintro e w ⟨rfl, hb⟩; replace HO := HO.call hb; clear hb)))))
                refine thenQ_keep (HO.heldO (by with_reducible (repeat (first | exact List.nil_sublist _ | apply List.Sublist.cons_cons | apply List.Sublist.cons)))) ?_
                refine wpS_fin ?_
                repeat ((with_reducible apply wpSched_pure); exact rfl; exact rfl; (intro w'; go_simp; try with_reducible rfl); (simp only [Act.put, List.setIfInBounds_toArray, List.set_cons_succ, List.set_cons_zero]))
                ((with_reducible apply wpSched_loud); exact rfl; (first | ((with_reducible apply wpList_boxAgg _ HO rfl); exact rfl; exact rfl; exact rfl; clear HO; intro b12 w HO; (simp only [Act.put, List.setIfInBounds_toArray, List.set_cons_succ, List.set_cons_zero])) | ((with_reducible apply wpList_allocAgg _ HO rfl); exact rfl; infer_instance; exact rfl; clear HO; intro b12 w HO; (simp only [Act.put, List.setIfInBounds_toArray, List.set_cons_succ, List.set_cons_zero])) | ((with_reducible apply wpList_boxOne _ HO rfl); exact rfl; (first | (simp [Act.eval]; rfl) | exact rfl); exact rfl; exact rfl; clear HO; intro b12 w HO; (simp only [Act.put, List.setIfInBounds_toArray, List.set_cons_succ, List.set_cons_zero])) | ((with_reducible apply wpList_alloc _ HO rfl); exact rfl; infer_instance; exact rfl; exact rfl; clear HO; intro b12 w HO; (simp only [Act.put, List.setIfInBounds_toArray, List.set_cons_succ, List.set_cons_zero]))))
                refine wpList_nil (thenQ_keep (HO.heldO (by with_reducible (repeat (first | exact List.nil_sublist _ | apply List.Sublist.cons_cons | apply List.Sublist.cons)))) ?_)
                ((with_reducible apply wpSched_loud); exact rfl; ((with_reducible apply wpList_storeAll HO); exact rfl; exact rfl; exact rfl; (repeat (with_reducible (first | exact At.head _ | apply At.tail))); infer_instance; exact rfl; exact rfl; exact rfl; exact rfl; clear HO; intro w HO; (simp only [Act.put])))
                refine wpList_nil (thenQ_keep (HO.heldO (by with_reducible (repeat (first | exact List.nil_sublist _ | apply List.Sublist.cons_cons | apply List.Sublist.cons)))) ?_)
                ((with_reducible apply wpSched_pure); exact rfl; exact rfl; (intro w'; go_simp; try with_reducible rfl); (simp only [Act.put, List.setIfInBounds_toArray, List.set_cons_succ, List.set_cons_zero]))
                refine wpSched_end ?_
                go_wp2_with fail
                go_meet
                exact ⟨rfl, HO.tail⟩
              · (first | ((with_reducible apply wpList_boxAgg _ HO rfl); exact rfl; exact rfl; exact rfl; clear HO; intro b12 w HO; (simp only [Act.put, List.setIfInBounds_toArray, List.set_cons_succ, List.set_cons_zero])) | ((with_reducible apply wpList_allocAgg _ HO rfl); exact rfl; infer_instance; exact rfl; clear HO; intro b12 w HO; (simp only [Act.put, List.setIfInBounds_toArray, List.set_cons_succ, List.set_cons_zero])) | ((with_reducible apply wpList_boxOne _ HO rfl); exact rfl; (first | (simp [Act.eval]; rfl) | exact rfl); exact rfl; exact rfl; clear HO; intro b12 w HO; (simp only [Act.put, List.setIfInBounds_toArray, List.set_cons_succ, List.set_cons_zero])) | ((with_reducible apply wpList_alloc _ HO rfl); exact rfl; infer_instance; exact rfl; exact rfl; clear HO; intro b12 w HO; (simp only [Act.put, List.setIfInBounds_toArray, List.set_cons_succ, List.set_cons_zero])))
                refine wpList_nil (thenQ_keep (HO.heldO (by with_reducible (repeat (first | exact List.nil_sublist _ | apply List.Sublist.cons_cons | apply List.Sublist.cons)))) ?_)
                refine wpS_fin ?_
                ((with_reducible apply wpSched_loud); exact rfl; go_wp2_with ((go_at_call 14; go_must (((with_reducible refine (AC _ HO.tail).mono ?_); (rintro e w ⟨rfl, hb⟩; replace HO := HO.call hb; clear hb))))))
                refine thenQ_keep (HO.heldO (by with_reducible (repeat (first | exact List.nil_sublist _ | apply List.Sublist.cons_cons | apply List.Sublist.cons)))) ?_
                repeat ((with_reducible apply wpSched_pure); exact rfl; exact rfl; (intro w'; go_simp; try with_reducible rfl); (simp only [Act.put, List.setIfInBounds_toArray, List.set_cons_succ, List.set_cons_zero]))
                ((with_reducible apply wpSched_loud); exact rfl; ((with_reducible apply wpList_storeAll HO); exact rfl; exact rfl; exact rfl; (repeat (with_reducible (first | exact At.head _ | apply At.tail))); infer_instance; exact rfl; exact rfl; exact rfl; exact rfl; clear HO; intro w HO; (simp only [Act.put])))
                refine wpList_nil (thenQ_keep (HO.heldO (by with_reducible (repeat (first | exact List.nil_sublist _ | apply List.Sublist.cons_cons | apply List.Sublist.cons)))) ?_)
                ((with_reducible apply wpSched_pure); exact rfl; exact rfl; (intro w'; go_simp; try with_reducible rfl); (simp only [Act.put, List.setIfInBounds_toArray, List.set_cons_succ, List.set_cons_zero]))
                refine wpSched_end ?_
                go_wp2_with fail
                go_meet
                exact ⟨rfl, HO.tail⟩
            clear HO
            obtain ⟨rfl, HO⟩ := hcut
            go_wp2_with fail
            go_roundw
            case rel => exact ⟨k, by omega, by go_num, T', hT3, B, u0, u1, u2, e0, e1, e2, mb, HS.out, hBok, hT1, HO⟩
            case measure => simp [intOf] <;> omega
          obtain ⟨hok, -⟩ := accE_ok hacc
          have HS : ∀ B', B' = B.put p q rs → Best T' B' := fun B' h => by rw [h]; have := HBN.out; rwa [stepI, if_pos hacc] at this
          replace HS := Lib.hid HS
          obtain ⟨_, _, hp0, hp2, _, _⟩ := okStmt_ok hok
          have hp : p = 0 ∨ p = 1 ∨ p = 2 := by omega
          clear HBN
          rcases hp with rfl | rfl | rfl
          · have AC : ∀ w, Own WB w [box b9 (.cells #[.int .i64 B.p0, .int .i64 B.q0, .slice u0 B.r0.length e0, .int .i64 B.p1, .int .i64 B.q1, .slice u1 B.r1.length e1, .int .i64 B.p2, .int .i64 B.q2, .slice u2 B.r2.length e2, .map mb] 32), box b7 (.cells #[.int .i64 A.p0, .int .i64 A.q0, .slice s0 A.r0.length c0, .int .i64 A.p1, .int .i64 A.q1, .slice s1 A.r1.length c1, .int .i64 A.p2, .int .i64 A.q2, .slice s2 A.r2.length c2, .map m] 32), isl 5 (.slice u0 B.r0.length e0) (B.r0.map rowC), isl 5 (.slice u1 B.r1.length e1) (B.r1.map rowC), isl 5 (.slice u2 B.r2.length e2) (B.r2.map rowC), isl 5 (.slice s0 A.r0.length c0) (A.r0.map rowC), isl 5 (.slice s1 A.r1.length c1) (A.r1.map rowC), isl 5 (.slice s2 A.r2.length c2) (A.r2.map rowC)] → Calls Tryd.prog 14 #[.agg #[.int .i64 B.p0, .int .i64 B.q0, .slice u0 B.r0.length e0, .int .i64 B.p1, .int .i64 B.q1, .slice u1 B.r1.length e1, .int .i64 B.p2, .int .i64 B.q2, .slice u2 B.r2.length e2, .map mb], .agg #[.int .i64 0, .int .i64 q, .slice sv rs.length cv]] w fun e w' => ∃ bm nm su cu, e = .returned (.tuple #[.agg #[.int .i64 0, .int .i64 q, .slice su rs.length cu, .int .i64 B.p1, .int .i64 B.q1, .slice u1 B.r1.length e1, .int .i64 B.p2, .int .i64 B.q2, .slice u2 B.r2.length e2, .map (some bm)], .int .i64 0]) ∧ Own w w' [mapE Tryd.prog 43 bm nm (allF (B.put 0 q rs)), row 45 5 (.slice su rs.length cu) (rs.map rowC)] := fun w h1 => (AC0 w h1).mono (fun e w' he => by
              unfold AccPost at he
              rw [if_pos hacc] at he
              obtain ⟨bm, nm, u, hO, ⟨su, cu, rfl⟩, rfl⟩ := he
              exact ⟨bm, nm, su, cu, rfl, hO⟩)
            clear AC0 hacc
            go_upto_region 20 with fail
            go_cut [15, 16] (fun x e wx => ∃ (b12 bm nm : Nat) (su : Option Addr) (cu : Nat), x = .pointer (some ⟨b12, 0, none⟩) ∧ e = .int .i64 0 ∧ Own WB wx (box b12 (.cells #[.int .i64 0, .int .i64 q, .slice su rs.length cu, .int .i64 B.p1, .int .i64 B.q1, .slice u1 B.r1.length e1, .int .i64 B.p2, .int .i64 B.q2, .slice u2 B.r2.length e2, .map (some bm)] 32) :: mapE Tryd.prog 43 bm nm (allF (B.put 0 q rs)) :: row 45 5 (.slice su rs.length cu) (rs.map rowC) :: [box b9 (.cells #[.int .i64 B.p0, .int .i64 B.q0, .slice u0 B.r0.length e0, .int .i64 B.p1, .int .i64 B.q1, .slice u1 B.r1.length e1, .int .i64 B.p2, .int .i64 B.q2, .slice u2 B.r2.length e2, .map mb] 32), box b7 (.cells #[.int .i64 A.p0, .int .i64 A.q0, .slice s0 A.r0.length c0, .int .i64 A.p1, .int .i64 A.q1, .slice s1 A.r1.length c1, .int .i64 A.p2, .int .i64 A.q2, .slice s2 A.r2.length c2, .map m] 32), isl 5 (.slice u0 B.r0.length e0) (B.r0.map rowC), isl 5 (.slice u1 B.r1.length e1) (B.r1.map rowC), isl 5 (.slice u2 B.r2.length e2) (B.r2.map rowC), isl 5 (.slice s0 A.r0.length c0) (A.r0.map rowC), isl 5 (.slice s1 A.r1.length c1) (A.r1.map rowC), isl 5 (.slice s2 A.r2.length c2) (A.r2.map rowC)]))
            case first =>
              refine region_treeO [box b9 (.cells #[.int .i64 B.p0, .int .i64 B.q0, .slice u0 B.r0.length e0, .int .i64 B.p1, .int .i64 B.q1, .slice u1 B.r1.length e1, .int .i64 B.p2, .int .i64 B.q2, .slice u2 B.r2.length e2, .map mb] 32)] [(0, true), (1, true), (2, true), (3, true), (4, true), (6, true), (7, true), (8, true), (11, true)] (.fork [(0, true), (1, true), (2, true), (3, true), (4, true)] 5 9 (.fin [(6, true), (7, true), (8, true), (9, false), (10, false), (11, true)]) (.fin [(5, false), (6, true), (7, true), (8, true), (10, false), (11, true)])) HO (by with_reducible (repeat (first | exact List.nil_sublist _ | apply List.Sublist.cons_cons | apply List.Sublist.cons))) (by kernel_rfl) (by kernel_rfl) ?_
              clear HO
              intro w HO
              refine wpS_fork ?_
              repeat (first | ((with_reducible apply wpSched_loadAll); exact rfl; exact rfl; exact rfl; (repeat (with_reducible (first | exact At.head _ | apply At.tail))); infer_instance; exact rfl; exact rfl; (simp only [Act.put, List.setIfInBounds_toArray, List.set_cons_succ, List.set_cons_zero])) | ((with_reducible apply wpSched_loadAt); exact rfl; exact rfl; exact rfl; exact (fun w' hw => hst.out w' (hw _ List.mem_cons_self)); infer_instance; exact rfl; exact rfl; (simp only [Act.put, List.setIfInBounds_toArray, List.set_cons_succ, List.set_cons_zero])) | ((with_reducible apply wpSched_pure); exact rfl; exact rfl; (intro w'; go_simp; try with_reducible rfl); (simp only [Act.put, List.setIfInBounds_toArray, List.set_cons_succ, List.set_cons_zero])))
              refine fork_end rfl rfl ?_ ?_
              · go_wp2_with ((go_at_call 14; go_must ((with_reducible refine (AC _ HO).mono ?_); rintro e w ⟨bm, nm, su, cu, rfl, HO1⟩; replace HO := HO.lift HO1; clear HO1; simp only [List.cons_append, List.nil_append] at HO)))
                refine thenQ_keep (HO.heldO (by with_reducible (repeat (first | exact List.nil_sublist _ | apply List.Sublist.cons_cons | apply List.Sublist.cons)))) ?_
                refine wpS_fin ?_
                repeat ((with_reducible apply wpSched_pure); exact rfl; exact rfl; (intro w'; go_simp; try with_reducible rfl); (simp only [Act.put, List.setIfInBounds_toArray, List.set_cons_succ, List.set_cons_zero]))
                ((with_reducible apply wpSched_loud); exact rfl; (first | ((with_reducible apply wpList_boxAgg _ HO rfl); exact rfl; exact rfl; exact rfl; clear HO; intro b12 w HO; (simp only [Act.put, List.setIfInBounds_toArray, List.set_cons_succ, List.set_cons_zero])) | ((with_reducible apply wpList_allocAgg _ HO rfl); exact rfl; infer_instance; exact rfl; clear HO; intro b12 w HO; (simp only [Act.put, List.setIfInBounds_toArray, List.set_cons_succ, List.set_cons_zero])) | ((with_reducible apply wpList_boxOne _ HO rfl); exact rfl; (first | (simp [Act.eval]; rfl) | exact rfl); exact rfl; exact rfl; clear HO; intro b12 w HO; (simp only [Act.put, List.setIfInBounds_toArray, List.set_cons_succ, List.set_cons_zero])) | ((with_reducible apply wpList_alloc _ HO rfl); exact rfl; infer_instance; exact rfl; exact rfl; clear HO; intro b12 w HO; (simp only [Act.put, List.setIfInBounds_toArray, List.set_cons_succ, List.set_cons_zero]))))
                refine wpList_nil (thenQ_keep (HO.heldO (by with_reducible (repeat (first | exact List.nil_sublist _ | apply List.Sublist.cons_cons | apply List.Sublist.cons)))) ?_)
                ((with_reducible apply wpSched_loud); exact rfl; ((with_reducible apply wpList_storeAll HO); exact rfl; exact rfl; exact rfl; (repeat (with_reducible (first | exact At.head _ | apply At.tail))); infer_instance; exact rfl; exact rfl; exact rfl; exact rfl; clear HO; intro w HO; (simp only [Act.put])))
                refine wpList_nil (thenQ_keep (HO.heldO (by with_reducible (repeat (first | exact List.nil_sublist _ | apply List.Sublist.cons_cons | apply List.Sublist.cons)))) ?_)
                ((with_reducible apply wpSched_pure); exact rfl; exact rfl; (intro w'; go_simp; try with_reducible rfl); (simp only [Act.put, List.setIfInBounds_toArray, List.set_cons_succ, List.set_cons_zero]))
                refine wpSched_end ?_
                go_wp2_with fail
                go_meet
                exact ⟨b12, bm, nm, su, cu, rfl, rfl, HO⟩
              · (first | ((with_reducible apply wpList_boxAgg _ HO rfl); exact rfl; exact rfl; exact rfl; clear HO; intro b12 w HO; (simp only [Act.put, List.setIfInBounds_toArray, List.set_cons_succ, List.set_cons_zero])) | ((with_reducible apply wpList_allocAgg _ HO rfl); exact rfl; infer_instance; exact rfl; clear HO; intro b12 w HO; (simp only [Act.put, List.setIfInBounds_toArray, List.set_cons_succ, List.set_cons_zero])) | ((with_reducible apply wpList_boxOne _ HO rfl); exact rfl; (first | (simp [Act.eval]; rfl) | exact rfl); exact rfl; exact rfl; clear HO; intro b12 w HO; (simp only [Act.put, List.setIfInBounds_toArray, List.set_cons_succ, List.set_cons_zero])) | ((with_reducible apply wpList_alloc _ HO rfl); exact rfl; infer_instance; exact rfl; exact rfl; clear HO; intro b12 w HO; (simp only [Act.put, List.setIfInBounds_toArray, List.set_cons_succ, List.set_cons_zero])))
                refine wpList_nil (thenQ_keep (HO.heldO (by with_reducible (repeat (first | exact List.nil_sublist _ | apply List.Sublist.cons_cons | apply List.Sublist.cons)))) ?_)
                refine wpS_fin ?_
                ((with_reducible apply wpSched_loud); exact rfl; go_wp2_with ((go_at_call 14; go_must ((with_reducible refine (AC _ HO.tail).mono ?_); rintro e w ⟨bm, nm, su, cu, rfl, HO1⟩; replace HO := HO.lift HO1; clear HO1; simp only [List.cons_append, List.nil_append] at HO))))
                refine thenQ_keep (HO.heldO (by with_reducible (repeat (first | exact List.nil_sublist _ | apply List.Sublist.cons_cons | apply List.Sublist.cons)))) ?_
                repeat ((with_reducible apply wpSched_pure); exact rfl; exact rfl; (intro w'; go_simp; try with_reducible rfl); (simp only [Act.put, List.setIfInBounds_toArray, List.set_cons_succ, List.set_cons_zero]))
                ((with_reducible apply wpSched_loud); exact rfl; ((with_reducible apply wpList_storeAll HO); exact rfl; exact rfl; exact rfl; (repeat (with_reducible (first | exact At.head _ | apply At.tail))); infer_instance; exact rfl; exact rfl; exact rfl; exact rfl; clear HO; intro w HO; (simp only [Act.put])))
                refine wpList_nil (thenQ_keep (HO.heldO (by with_reducible (repeat (first | exact List.nil_sublist _ | apply List.Sublist.cons_cons | apply List.Sublist.cons)))) ?_)
                ((with_reducible apply wpSched_pure); exact rfl; exact rfl; (intro w'; go_simp; try with_reducible rfl); (simp only [Act.put, List.setIfInBounds_toArray, List.set_cons_succ, List.set_cons_zero]))
                refine wpSched_end ?_
                go_wp2_with fail
                go_meet
                exact ⟨b12, bm, nm, su, cu, rfl, rfl, HO.front3⟩
            clear HO
            obtain ⟨b12, bm, nm, su, cu, rfl, rfl, HO⟩ := hcut
            go_wp2_with (first | (first | go_big_skip | ((with_reducible apply wpList_loadAll HO); exact rfl; exact rfl; (repeat (with_reducible (first | exact At.head _ | apply At.tail))); infer_instance; exact rfl; exact rfl; (simp only [Act.put, List.setIfInBounds_toArray, List.set_cons_succ, List.set_cons_zero])) | ((with_reducible apply wpList_loadOne HO); exact rfl; exact rfl; (repeat (with_reducible (first | exact At.head _ | apply At.tail))); exact rfl; infer_instance; exact rfl; (simp only [Act.put, List.setIfInBounds_toArray, List.set_cons_succ, List.set_cons_zero]))) | ((with_reducible apply wpList_storeAll HO); exact rfl; exact rfl; exact rfl; (repeat (with_reducible (first | exact At.head _ | apply At.tail))); infer_instance; exact rfl; exact rfl; exact rfl; exact rfl; clear HO; intro w HO; (simp only [Act.put])))
            go_roundw
            case rel => exact ⟨k, by omega, by go_num, T', hT3, B.put 0 q rs, su, u1, u2, cu, e1, e2, some bm, HS.out _ rfl, put_ok hBok hok, hT1, ((Own.rowIsl HO.tail.tail (.head _)).sub (by exact .cons_cons _ (.cons_cons _ (.cons_cons _ (.cons _ (.cons_cons _ (.cons_cons _ (.cons_cons _ (.cons_cons _ (.cons_cons _ (List.Sublist.refl _))))))))))).perm ((List.perm_middle (l₁ := [_, _]) (l₂ := [_, _, _, _, _])).symm)⟩
            case measure => simp [intOf] <;> omega
          · have AC : ∀ w, Own WB w [box b9 (.cells #[.int .i64 B.p0, .int .i64 B.q0, .slice u0 B.r0.length e0, .int .i64 B.p1, .int .i64 B.q1, .slice u1 B.r1.length e1, .int .i64 B.p2, .int .i64 B.q2, .slice u2 B.r2.length e2, .map mb] 32), box b7 (.cells #[.int .i64 A.p0, .int .i64 A.q0, .slice s0 A.r0.length c0, .int .i64 A.p1, .int .i64 A.q1, .slice s1 A.r1.length c1, .int .i64 A.p2, .int .i64 A.q2, .slice s2 A.r2.length c2, .map m] 32), isl 5 (.slice u0 B.r0.length e0) (B.r0.map rowC), isl 5 (.slice u1 B.r1.length e1) (B.r1.map rowC), isl 5 (.slice u2 B.r2.length e2) (B.r2.map rowC), isl 5 (.slice s0 A.r0.length c0) (A.r0.map rowC), isl 5 (.slice s1 A.r1.length c1) (A.r1.map rowC), isl 5 (.slice s2 A.r2.length c2) (A.r2.map rowC)] → Calls Tryd.prog 14 #[.agg #[.int .i64 B.p0, .int .i64 B.q0, .slice u0 B.r0.length e0, .int .i64 B.p1, .int .i64 B.q1, .slice u1 B.r1.length e1, .int .i64 B.p2, .int .i64 B.q2, .slice u2 B.r2.length e2, .map mb], .agg #[.int .i64 1, .int .i64 q, .slice sv rs.length cv]] w fun e w' => ∃ bm nm su cu, e = .returned (.tuple #[.agg #[.int .i64 B.p0, .int .i64 B.q0, .slice u0 B.r0.length e0, .int .i64 1, .int .i64 q, .slice su rs.length cu, .int .i64 B.p2, .int .i64 B.q2, .slice u2 B.r2.length e2, .map (some bm)], .int .i64 0]) ∧ Own w w' [mapE Tryd.prog 43 bm nm (allF (B.put 1 q rs)), row 45 5 (.slice su rs.length cu) (rs.map rowC)] := fun w h1 => (AC0 w h1).mono (fun e w' he => by
              unfold AccPost at he
              rw [if_pos hacc] at he
              obtain ⟨bm, nm, u, hO, ⟨su, cu, rfl⟩, rfl⟩ := he
              exact ⟨bm, nm, su, cu, rfl, hO⟩)
            clear AC0 hacc
            go_upto_region 20 with fail
            go_cut [15, 16] (fun x e wx => ∃ (b12 bm nm : Nat) (su : Option Addr) (cu : Nat), x = .pointer (some ⟨b12, 0, none⟩) ∧ e = .int .i64 0 ∧ Own WB wx (box b12 (.cells #[.int .i64 B.p0, .int .i64 B.q0, .slice u0 B.r0.length e0, .int .i64 1, .int .i64 q, .slice su rs.length cu, .int .i64 B.p2, .int .i64 B.q2, .slice u2 B.r2.length e2, .map (some bm)] 32) :: mapE Tryd.prog 43 bm nm (allF (B.put 1 q rs)) :: row 45 5 (.slice su rs.length cu) (rs.map rowC) :: [box b9 (.cells #[.int .i64 B.p0, .int .i64 B.q0, .slice u0 B.r0.length e0, .int .i64 B.p1, .int .i64 B.q1, .slice u1 B.r1.length e1, .int .i64 B.p2, .int .i64 B.q2, .slice u2 B.r2.length e2, .map mb] 32), box b7 (.cells #[.int .i64 A.p0, .int .i64 A.q0, .slice s0 A.r0.length c0, .int .i64 A.p1, .int .i64 A.q1, .slice s1 A.r1.length c1, .int .i64 A.p2, .int .i64 A.q2, .slice s2 A.r2.length c2, .map m] 32), isl 5 (.slice u0 B.r0.length e0) (B.r0.map rowC), isl 5 (.slice u1 B.r1.length e1) (B.r1.map rowC), isl 5 (.slice u2 B.r2.length e2) (B.r2.map rowC), isl 5 (.slice s0 A.r0.length c0) (A.r0.map rowC), isl 5 (.slice s1 A.r1.length c1) (A.r1.map rowC), isl 5 (.slice s2 A.r2.length c2) (A.r2.map rowC)]))
            case first =>
              refine region_treeO [box b9 (.cells #[.int .i64 B.p0, .int .i64 B.q0, .slice u0 B.r0.length e0, .int .i64 B.p1, .int .i64 B.q1, .slice u1 B.r1.length e1, .int .i64 B.p2, .int .i64 B.q2, .slice u2 B.r2.length e2, .map mb] 32)] [(0, true), (1, true), (2, true), (3, true), (4, true), (6, true), (7, true), (8, true), (11, true)] (.fork [(0, true), (1, true), (2, true), (3, true), (4, true)] 5 9 (.fin [(6, true), (7, true), (8, true), (9, false), (10, false), (11, true)]) (.fin [(5, false), (6, true), (7, true), (8, true), (10, false), (11, true)])) HO (by with_reducible (repeat (first | exact List.nil_sublist _ | apply List.Sublist.cons_cons | apply List.Sublist.cons))) (by kernel_rfl) (by kernel_rfl) ?_
              clear HO
              intro w HO
              refine wpS_fork ?_
              repeat (first | ((with_reducible apply wpSched_loadAll); exact rfl; exact rfl; exact rfl; (repeat (with_reducible (first | exact At.head _ | apply At.tail))); infer_instance; exact rfl; exact rfl; (simp only [Act.put, List.setIfInBounds_toArray, List.set_cons_succ, List.set_cons_zero])) | ((with_reducible apply wpSched_loadAt); exact rfl; exact rfl; exact rfl; exact (fun w' hw => hst.out w' (hw _ List.mem_cons_self)); infer_instance; exact rfl; exact rfl; (simp only [Act.put, List.setIfInBounds_toArray, List.set_cons_succ, List.set_cons_zero])) | ((with_reducible apply wpSched_pure); exact rfl; exact rfl; (intro w'; go_simp; try with_reducible rfl); (simp only [Act.put, List.setIfInBounds_toArray, List.set_cons_succ, List.set_cons_zero])))
              refine fork_end rfl rfl ?_ ?_
              · go_wp2_with ((go_at_call 14; go_must ((with_reducible refine (AC _ HO).mono ?_); rintro e w ⟨bm, nm, su, cu, rfl, HO1⟩; replace HO := HO.lift HO1; clear HO1; simp only [List.cons_append, List.nil_append] at HO)))
                refine thenQ_keep (HO.heldO (by with_reducible (repeat (first | exact List.nil_sublist _ | apply List.Sublist.cons_cons | apply List.Sublist.cons)))) ?_
                refine wpS_fin ?_
                repeat ((with_reducible apply wpSched_pure); exact rfl; exact rfl; (intro w'; go_simp; try with_reducible rfl); (simp only [Act.put, List.setIfInBounds_toArray, List.set_cons_succ, List.set_cons_zero]))
                ((with_reducible apply wpSched_loud); exact rfl; (first | ((with_reducible apply wpList_boxAgg _ HO rfl); exact rfl; exact rfl; exact rfl; clear HO; intro b12 w HO; (simp only [Act.put, List.setIfInBounds_toArray, List.set_cons_succ, List.set_cons_zero])) | ((with_reducible apply wpList_allocAgg _ HO rfl); exact rfl; infer_instance; exact rfl; clear HO; intro b12 w HO; (simp only [Act.put, List.setIfInBounds_toArray, List.set_cons_succ, List.set_cons_zero])) | ((with_reducible apply wpList_boxOne _ HO rfl); exact rfl; (first | (simp [Act.eval]; rfl) | exact rfl); exact rfl; exact rfl; clear HO; intro b12 w HO; (simp only [Act.put, List.setIfInBounds_toArray, List.set_cons_succ, List.set_cons_zero])) | ((with_reducible apply wpList_alloc _ HO rfl); exact rfl; infer_instance; exact rfl; exact rfl; clear HO; intro b12 w HO; (simp only [Act.put, List.setIfInBounds_toArray, List.set_cons_succ, List.set_cons_zero]))))
                refine wpList_nil (thenQ_keep (HO.heldO (by with_reducible (repeat (first | exact List.nil_sublist _ | apply List.Sublist.cons_cons | apply List.Sublist.cons)))) ?_)
                ((with_reducible apply wpSched_loud); exact rfl; ((with_reducible apply wpList_storeAll HO); exact rfl; exact rfl; exact rfl; (repeat (with_reducible (first | exact At.head _ | apply At.tail))); infer_instance; exact rfl; exact rfl; exact rfl; exact rfl; clear HO; intro w HO; (simp only [Act.put])))
                refine wpList_nil (thenQ_keep (HO.heldO (by with_reducible (repeat (first | exact List.nil_sublist _ | apply List.Sublist.cons_cons | apply List.Sublist.cons)))) ?_)
                ((with_reducible apply wpSched_pure); exact rfl; exact rfl; (intro w'; go_simp; try with_reducible rfl); (simp only [Act.put, List.setIfInBounds_toArray, List.set_cons_succ, List.set_cons_zero]))
                refine wpSched_end ?_
                go_wp2_with fail
                go_meet
                exact ⟨b12, bm, nm, su, cu, rfl, rfl, HO⟩
              · (first | ((with_reducible apply wpList_boxAgg _ HO rfl); exact rfl; exact rfl; exact rfl; clear HO; intro b12 w HO; (simp only [Act.put, List.setIfInBounds_toArray, List.set_cons_succ, List.set_cons_zero])) | ((with_reducible apply wpList_allocAgg _ HO rfl); exact rfl; infer_instance; exact rfl; clear HO; intro b12 w HO; (simp only [Act.put, List.setIfInBounds_toArray, List.set_cons_succ, List.set_cons_zero])) | ((with_reducible apply wpList_boxOne _ HO rfl); exact rfl; (first | (simp [Act.eval]; rfl) | exact rfl); exact rfl; exact rfl; clear HO; intro b12 w HO; (simp only [Act.put, List.setIfInBounds_toArray, List.set_cons_succ, List.set_cons_zero])) | ((with_reducible apply wpList_alloc _ HO rfl); exact rfl; infer_instance; exact rfl; exact rfl; clear HO; intro b12 w HO; (simp only [Act.put, List.setIfInBounds_toArray, List.set_cons_succ, List.set_cons_zero])))
                refine wpList_nil (thenQ_keep (HO.heldO (by with_reducible (repeat (first | exact List.nil_sublist _ | apply List.Sublist.cons_cons | apply List.Sublist.cons)))) ?_)
                refine wpS_fin ?_
                ((with_reducible apply wpSched_loud); exact rfl; go_wp2_with ((go_at_call 14; go_must ((with_reducible refine (AC _ HO.tail).mono ?_); rintro e w ⟨bm, nm, su, cu, rfl, HO1⟩; replace HO := HO.lift HO1; clear HO1; simp only [List.cons_append, List.nil_append] at HO))))
                refine thenQ_keep (HO.heldO (by with_reducible (repeat (first | exact List.nil_sublist _ | apply List.Sublist.cons_cons | apply List.Sublist.cons)))) ?_
                repeat ((with_reducible apply wpSched_pure); exact rfl; exact rfl; (intro w'; go_simp; try with_reducible rfl); (simp only [Act.put, List.setIfInBounds_toArray, List.set_cons_succ, List.set_cons_zero]))
                ((with_reducible apply wpSched_loud); exact rfl; ((with_reducible apply wpList_storeAll HO); exact rfl; exact rfl; exact rfl; (repeat (with_reducible (first | exact At.head _ | apply At.tail))); infer_instance; exact rfl; exact rfl; exact rfl; exact rfl; clear HO; intro w HO; (simp only [Act.put])))
                refine wpList_nil (thenQ_keep (HO.heldO (by with_reducible (repeat (first | exact List.nil_sublist _ | apply List.Sublist.cons_cons | apply List.Sublist.cons)))) ?_)
                ((with_reducible apply wpSched_pure); exact rfl; exact rfl; (intro w'; go_simp; try with_reducible rfl); (simp only [Act.put, List.setIfInBounds_toArray, List.set_cons_succ, List.set_cons_zero]))
                refine wpSched_end ?_
                go_wp2_with fail
                go_meet
                exact ⟨b12, bm, nm, su, cu, rfl, rfl, HO.front3⟩
            clear HO
            obtain ⟨b12, bm, nm, su, cu, rfl, rfl, HO⟩ := hcut
            go_wp2_with (first | (first | go_big_skip | ((with_reducible apply wpList_loadAll HO); exact rfl; exact rfl; (repeat (with_reducible (first | exact At.head _ | apply At.tail))); infer_instance; exact rfl; exact rfl; (simp only [Act.put, List.setIfInBounds_toArray, List.set_cons_succ, List.set_cons_zero])) | ((with_reducible apply wpList_loadOne HO); exact rfl; exact rfl; (repeat (with_reducible (first | exact At.head _ | apply At.tail))); exact rfl; infer_instance; exact rfl; (simp only [Act.put, List.setIfInBounds_toArray, List.set_cons_succ, List.set_cons_zero]))) | ((with_reducible apply wpList_storeAll HO); exact rfl; exact rfl; exact rfl; (repeat (with_reducible (first | exact At.head _ | apply At.tail))); infer_instance; exact rfl; exact rfl; exact rfl; exact rfl; clear HO; intro w HO; (simp only [Act.put])))
            go_roundw
            case rel => exact ⟨k, by omega, by go_num, T', hT3, B.put 1 q rs, u0, su, u2, e0, cu, e2, some bm, HS.out _ rfl, put_ok hBok hok, hT1, ((Own.rowIsl HO.tail.tail (.head _)).sub (by exact .cons_cons _ (.cons_cons _ (.cons_cons _ (.cons_cons _ (.cons _ (.cons_cons _ (.cons_cons _ (.cons_cons _ (.cons_cons _ (List.Sublist.refl _))))))))))).perm ((List.perm_middle (l₁ := [_, _, _]) (l₂ := [_, _, _, _])).symm)⟩
            case measure => simp [intOf] <;> omega
          · have AC : ∀ w, Own WB w [box b9 (.cells #[.int .i64 B.p0, .int .i64 B.q0, .slice u0 B.r0.length e0, .int .i64 B.p1, .int .i64 B.q1, .slice u1 B.r1.length e1, .int .i64 B.p2, .int .i64 B.q2, .slice u2 B.r2.length e2, .map mb] 32), box b7 (.cells #[.int .i64 A.p0, .int .i64 A.q0, .slice s0 A.r0.length c0, .int .i64 A.p1, .int .i64 A.q1, .slice s1 A.r1.length c1, .int .i64 A.p2, .int .i64 A.q2, .slice s2 A.r2.length c2, .map m] 32), isl 5 (.slice u0 B.r0.length e0) (B.r0.map rowC), isl 5 (.slice u1 B.r1.length e1) (B.r1.map rowC), isl 5 (.slice u2 B.r2.length e2) (B.r2.map rowC), isl 5 (.slice s0 A.r0.length c0) (A.r0.map rowC), isl 5 (.slice s1 A.r1.length c1) (A.r1.map rowC), isl 5 (.slice s2 A.r2.length c2) (A.r2.map rowC)] → Calls Tryd.prog 14 #[.agg #[.int .i64 B.p0, .int .i64 B.q0, .slice u0 B.r0.length e0, .int .i64 B.p1, .int .i64 B.q1, .slice u1 B.r1.length e1, .int .i64 B.p2, .int .i64 B.q2, .slice u2 B.r2.length e2, .map mb], .agg #[.int .i64 2, .int .i64 q, .slice sv rs.length cv]] w fun e w' => ∃ bm nm su cu, e = .returned (.tuple #[.agg #[.int .i64 B.p0, .int .i64 B.q0, .slice u0 B.r0.length e0, .int .i64 B.p1, .int .i64 B.q1, .slice u1 B.r1.length e1, .int .i64 2, .int .i64 q, .slice su rs.length cu, .map (some bm)], .int .i64 0]) ∧ Own w w' [mapE Tryd.prog 43 bm nm (allF (B.put 2 q rs)), row 45 5 (.slice su rs.length cu) (rs.map rowC)] := fun w h1 => (AC0 w h1).mono (fun e w' he => by
              unfold AccPost at he
              rw [if_pos hacc] at he
              obtain ⟨bm, nm, u, hO, ⟨su, cu, rfl⟩, rfl⟩ := he
              exact ⟨bm, nm, su, cu, rfl, hO⟩)
            clear AC0 hacc
            go_upto_region 20 with fail
            go_cut [15, 16] (fun x e wx => ∃ (b12 bm nm : Nat) (su : Option Addr) (cu : Nat), x = .pointer (some ⟨b12, 0, none⟩) ∧ e = .int .i64 0 ∧ Own WB wx (box b12 (.cells #[.int .i64 B.p0, .int .i64 B.q0, .slice u0 B.r0.length e0, .int .i64 B.p1, .int .i64 B.q1, .slice u1 B.r1.length e1, .int .i64 2, .int .i64 q, .slice su rs.length cu, .map (some bm)] 32) :: mapE Tryd.prog 43 bm nm (allF (B.put 2 q rs)) :: row 45 5 (.slice su rs.length cu) (rs.map rowC) :: [box b9 (.cells #[.int .i64 B.p0, .int .i64 B.q0, .slice u0 B.r0.length e0, .int .i64 B.p1, .int .i64 B.q1, .slice u1 B.r1.length e1, .int .i64 B.p2, .int .i64 B.q2, .slice u2 B.r2.length e2, .map mb] 32), box b7 (.cells #[.int .i64 A.p0, .int .i64 A.q0, .slice s0 A.r0.length c0, .int .i64 A.p1, .int .i64 A.q1, .slice s1 A.r1.length c1, .int .i64 A.p2, .int .i64 A.q2, .slice s2 A.r2.length c2, .map m] 32), isl 5 (.slice u0 B.r0.length e0) (B.r0.map rowC), isl 5 (.slice u1 B.r1.length e1) (B.r1.map rowC), isl 5 (.slice u2 B.r2.length e2) (B.r2.map rowC), isl 5 (.slice s0 A.r0.length c0) (A.r0.map rowC), isl 5 (.slice s1 A.r1.length c1) (A.r1.map rowC), isl 5 (.slice s2 A.r2.length c2) (A.r2.map rowC)]))
            case first =>
              refine region_treeO [box b9 (.cells #[.int .i64 B.p0, .int .i64 B.q0, .slice u0 B.r0.length e0, .int .i64 B.p1, .int .i64 B.q1, .slice u1 B.r1.length e1, .int .i64 B.p2, .int .i64 B.q2, .slice u2 B.r2.length e2, .map mb] 32)] [(0, true), (1, true), (2, true), (3, true), (4, true), (6, true), (7, true), (8, true), (11, true)] (.fork [(0, true), (1, true), (2, true), (3, true), (4, true)] 5 9 (.fin [(6, true), (7, true), (8, true), (9, false), (10, false), (11, true)]) (.fin [(5, false), (6, true), (7, true), (8, true), (10, false), (11, true)])) HO (by with_reducible (repeat (first | exact List.nil_sublist _ | apply List.Sublist.cons_cons | apply List.Sublist.cons))) (by kernel_rfl) (by kernel_rfl) ?_
              clear HO
              intro w HO
              refine wpS_fork ?_
              repeat (first | ((with_reducible apply wpSched_loadAll); exact rfl; exact rfl; exact rfl; (repeat (with_reducible (first | exact At.head _ | apply At.tail))); infer_instance; exact rfl; exact rfl; (simp only [Act.put, List.setIfInBounds_toArray, List.set_cons_succ, List.set_cons_zero])) | ((with_reducible apply wpSched_loadAt); exact rfl; exact rfl; exact rfl; exact (fun w' hw => hst.out w' (hw _ List.mem_cons_self)); infer_instance; exact rfl; exact rfl; (simp only [Act.put, List.setIfInBounds_toArray, List.set_cons_succ, List.set_cons_zero])) | ((with_reducible apply wpSched_pure); exact rfl; exact rfl; (intro w'; go_simp; try with_reducible rfl); (simp only [Act.put, List.setIfInBounds_toArray, List.set_cons_succ, List.set_cons_zero])))
              refine fork_end rfl rfl ?_ ?_
              · go_wp2_with ((go_at_call 14; go_must ((with_reducible refine (AC _ HO).mono ?_); rintro e w ⟨bm, nm, su, cu, rfl, HO1⟩; replace HO := HO.lift HO1; clear HO1; simp only [List.cons_append, List.nil_append] at HO)))
                refine thenQ_keep (HO.heldO (by with_reducible (repeat (first | exact List.nil_sublist _ | apply List.Sublist.cons_cons | apply List.Sublist.cons)))) ?_
                refine wpS_fin ?_
                repeat ((with_reducible apply wpSched_pure); exact rfl; exact rfl; (intro w'; go_simp; try with_reducible rfl); (simp only [Act.put, List.setIfInBounds_toArray, List.set_cons_succ, List.set_cons_zero]))
                ((with_reducible apply wpSched_loud); exact rfl; (first | ((with_reducible apply wpList_boxAgg _ HO rfl); exact rfl; exact rfl; exact rfl; clear HO; intro b12 w HO; (simp only [Act.put, List.setIfInBounds_toArray, List.set_cons_succ, List.set_cons_zero])) | ((with_reducible apply wpList_allocAgg _ HO rfl); exact rfl; infer_instance; exact rfl; clear HO; intro b12 w HO; (simp only [Act.put, List.setIfInBounds_toArray, List.set_cons_succ, List.set_cons_zero])) | ((with_reducible apply wpList_boxOne _ HO rfl); exact rfl; (first | (simp [Act.eval]; rfl) | exact rfl); exact rfl; exact rfl; clear HO; intro b12 w HO; (simp only [Act.put, List.setIfInBounds_toArray, List.set_cons_succ, List.set_cons_zero])) | ((with_reducible apply wpList_alloc _ HO rfl); exact rfl; infer_instance; exact rfl; exact rfl; clear HO; intro b12 w HO; (simp only [Act.put, List.setIfInBounds_toArray, List.set_cons_succ, List.set_cons_zero]))))
                refine wpList_nil (thenQ_keep (HO.heldO (by with_reducible (repeat (first | exact List.nil_sublist _ | apply List.Sublist.cons_cons | apply List.Sublist.cons)))) ?_)
                ((with_reducible apply wpSched_loud); exact rfl; ((with_reducible apply wpList_storeAll HO); exact rfl; exact rfl; exact rfl; (repeat (with_reducible (first | exact At.head _ | apply At.tail))); infer_instance; exact rfl; exact rfl; exact rfl; exact rfl; clear HO; intro w HO; (simp only [Act.put])))
                refine wpList_nil (thenQ_keep (HO.heldO (by with_reducible (repeat (first | exact List.nil_sublist _ | apply List.Sublist.cons_cons | apply List.Sublist.cons)))) ?_)
                ((with_reducible apply wpSched_pure); exact rfl; exact rfl; (intro w'; go_simp; try with_reducible rfl); (simp only [Act.put, List.setIfInBounds_toArray, List.set_cons_succ, List.set_cons_zero]))
                refine wpSched_end ?_
                go_wp2_with fail
                go_meet
                exact ⟨b12, bm, nm, su, cu, rfl, rfl, HO⟩
              · (first | ((with_reducible apply wpList_boxAgg _ HO rfl); exact rfl; exact rfl; exact rfl; clear HO; intro b12 w HO; (simp only [Act.put, List.setIfInBounds_toArray, List.set_cons_succ, List.set_cons_zero])) | ((with_reducible apply wpList_allocAgg _ HO rfl); exact rfl; infer_instance; exact rfl; clear HO; intro b12 w HO; (simp only [Act.put, List.setIfInBounds_toArray, List.set_cons_succ, List.set_cons_zero])) | ((with_reducible apply wpList_boxOne _ HO rfl); exact rfl; (first | (simp [Act.eval]; rfl) | exact rfl); exact rfl; exact rfl; clear HO; intro b12 w HO; (simp only [Act.put, List.setIfInBounds_toArray, List.set_cons_succ, List.set_cons_zero])) | ((with_reducible apply wpList_alloc _ HO rfl); exact rfl; infer_instance; exact rfl; exact rfl; clear HO; intro b12 w HO; (simp only [Act.put, List.setIfInBounds_toArray, List.set_cons_succ, List.set_cons_zero])))
                refine wpList_nil (thenQ_keep (HO.heldO (by with_reducible (repeat (first | exact List.nil_sublist _ | apply List.Sublist.cons_cons | apply List.Sublist.cons)))) ?_)
                refine wpS_fin ?_
                ((with_reducible apply wpSched_loud); exact rfl; go_wp2_with ((go_at_call 14; go_must ((with_reducible refine (AC _ HO.tail).mono ?_); rintro e w ⟨bm, nm, su, cu, rfl, HO1⟩; replace HO := HO.lift HO1; clear HO1; simp only [List.cons_append, List.nil_append] at HO))))
                refine thenQ_keep (HO.heldO (by with_reducible (repeat (first | exact List.nil_sublist _ | apply List.Sublist.cons_cons | apply List.Sublist.cons)))) ?_
                repeat ((with_reducible apply wpSched_pure); exact rfl; exact rfl; (intro w'; go_simp; try with_reducible rfl); (simp only [Act.put, List.setIfInBounds_toArray, List.set_cons_succ, List.set_cons_zero]))
                ((with_reducible apply wpSched_loud); exact rfl; ((with_reducible apply wpList_storeAll HO); exact rfl; exact rfl; exact rfl; (repeat (with_reducible (first | exact At.head _ | apply At.tail))); infer_instance; exact rfl; exact rfl; exact rfl; exact rfl; clear HO; intro w HO; (simp only [Act.put])))
                refine wpList_nil (thenQ_keep (HO.heldO (by with_reducible (repeat (first | exact List.nil_sublist _ | apply List.Sublist.cons_cons | apply List.Sublist.cons)))) ?_)
                ((with_reducible apply wpSched_pure); exact rfl; exact rfl; (intro w'; go_simp; try with_reducible rfl); (simp only [Act.put, List.setIfInBounds_toArray, List.set_cons_succ, List.set_cons_zero]))
                refine wpSched_end ?_
                go_wp2_with fail
                go_meet
                exact ⟨b12, bm, nm, su, cu, rfl, rfl, HO.front3⟩
            clear HO
            obtain ⟨b12, bm, nm, su, cu, rfl, rfl, HO⟩ := hcut
            go_wp2_with (first | (first | go_big_skip | ((with_reducible apply wpList_loadAll HO); exact rfl; exact rfl; (repeat (with_reducible (first | exact At.head _ | apply At.tail))); infer_instance; exact rfl; exact rfl; (simp only [Act.put, List.setIfInBounds_toArray, List.set_cons_succ, List.set_cons_zero])) | ((with_reducible apply wpList_loadOne HO); exact rfl; exact rfl; (repeat (with_reducible (first | exact At.head _ | apply At.tail))); exact rfl; infer_instance; exact rfl; (simp only [Act.put, List.setIfInBounds_toArray, List.set_cons_succ, List.set_cons_zero]))) | ((with_reducible apply wpList_storeAll HO); exact rfl; exact rfl; exact rfl; (repeat (with_reducible (first | exact At.head _ | apply At.tail))); infer_instance; exact rfl; exact rfl; exact rfl; exact rfl; clear HO; intro w HO; (simp only [Act.put])))
            go_roundw
            case rel => exact ⟨k, by omega, by go_num, T', hT3, B.put 2 q rs, u0, u1, su, e0, e1, cu, some bm, HS.out _ rfl, put_ok hBok hok, hT1, ((Own.rowIsl HO.tail.tail (.head _)).sub (by exact .cons_cons _ (.cons_cons _ (.cons_cons _ (.cons_cons _ (.cons_cons _ (.cons _ (.cons_cons _ (.cons_cons _ (.cons_cons _ (List.Sublist.refl _))))))))))).perm ((List.perm_middle (l₁ := [_, _, _, _]) (l₂ := [_, _, _])).symm)⟩
            case measure => simp [intOf] <;> omega
      obtain ⟨hjl, hn0⟩ := hgo
      have hjI : (j : Int) < (ns.length : Int) := by omega
      have hn0I : (0 : Int) < (ss.length : Int) := by omega
      obtain ⟨ta, rfl, htn⟩ := oldTurn HT.out rfl hjl
      replace htn := Lib.hid htn
      have hn255 := HN.out ns[j] (List.getElem_mem hjl)
      generalize ns[j] = tn at *
      have hwt : IntKind.i64.wrap (tn : Int) = (tn : Int) := wrap_n _ (by omega)
      have hk : tn % ss.length < own.length := by rw [hol]; exact Nat.mod_lt _ hn0
      have hkI : (tn : Int).tmod (ss.length : Int) = ((tn % ss.length : Nat) : Int) := by rw [Int.tmod_eq_emod_of_nonneg (by omega)]; rfl
      have hkS : ((tn % ss.length : Nat) : Int) < (ss.length : Int) := by have := Nat.mod_lt tn hn0; omega
      have hnz1 : ¬ (ss = []) := by rintro rfl; simp at hn0
      have hnz2 : ¬ (ss.length = 0) := by omega
      have hnz3 : ¬ ((ss.length : Int) = 0) := by omega
      generalize tn % ss.length = k at *
      obtain ⟨a, rfl, hst⟩ := oldSt HH.out rfl hk
      have hrow := HH.out.r own[k] (List.getElem_mem hk)
      obtain ⟨T', hB2, hT1⟩ : ∃ T', Best T' (stepI B own[k].p own[k].q own[k].rs) ∧ (∀ s ∈ T', s ∈ own) := ⟨T ++ [own[k]], best_step hBest own[k], fun s hs => by
        rcases List.mem_append.1 hs with hs | hs
        · exact hTs s hs
        · obtain rfl := List.mem_singleton.1 hs
          exact List.getElem_mem hk⟩
      clear hBest hTs
      generalize own[k] = st at *
      obtain ⟨p, q, v, rs⟩ := st
      simp only [stC] at hrow hst hB2
      obtain ⟨sv, cv, rfl, -⟩ := hrow.slice
      have HRW := Lib.hid hrow
      replace hst := Lib.hid hst
      clear hrow
      have HBN := Lib.hid hB2
      clear hB2
      have AC0 : ∀ w, Own WB w [box b9 (.cells #[.int .i64 B.p0, .int .i64 B.q0, .slice u0 B.r0.length e0, .int .i64 B.p1, .int .i64 B.q1, .slice u1 B.r1.length e1, .int .i64 B.p2, .int .i64 B.q2, .slice u2 B.r2.length e2, .map mb] 32), box b7 (.cells #[.int .i64 A.p0, .int .i64 A.q0, .slice s0 A.r0.length c0, .int .i64 A.p1, .int .i64 A.q1, .slice s1 A.r1.length c1, .int .i64 A.p2, .int .i64 A.q2, .slice s2 A.r2.length c2, .map m] 32), isl 5 (.slice u0 B.r0.length e0) (B.r0.map rowC), isl 5 (.slice u1 B.r1.length e1) (B.r1.map rowC), isl 5 (.slice u2 B.r2.length e2) (B.r2.map rowC), isl 5 (.slice s0 A.r0.length c0) (A.r0.map rowC), isl 5 (.slice s1 A.r1.length c1) (A.r1.map rowC), isl 5 (.slice s2 A.r2.length c2) (A.r2.map rowC)] → Calls Tryd.prog 14 #[.agg #[.int .i64 B.p0, .int .i64 B.q0, .slice u0 B.r0.length e0, .int .i64 B.p1, .int .i64 B.q1, .slice u1 B.r1.length e1, .int .i64 B.p2, .int .i64 B.q2, .slice u2 B.r2.length e2, .map mb], .agg #[.int .i64 p, .int .i64 q, .slice sv rs.length cv]] w (AccPost B p q rs (.slice u0 B.r0.length e0) (.slice u1 B.r1.length e1) (.slice u2 B.r2.length e2) w) := fun w h1 => accept_any B p q rs (ownIsl h1 (.tail _ _ _ (.tail _ _ _ (.head _)))) (ownIsl h1 (.tail _ _ _ (.tail _ _ _ (.tail _ _ _ (.head _))))) (ownIsl h1 (.tail _ _ _ (.tail _ _ _ (.tail _ _ _ (.tail _ _ _ (.head _)))))) (HRW.out.below h1.grown HRW.out.lt) hBok (mapForm mb) (HL.out _ h1.grown)
      by_cases hacc : accE B p q rs = 0
      rotate_left
      · have AC : ∀ w, Own WB w [box b9 (.cells #[.int .i64 B.p0, .int .i64 B.q0, .slice u0 B.r0.length e0, .int .i64 B.p1, .int .i64 B.q1, .slice u1 B.r1.length e1, .int .i64 B.p2, .int .i64 B.q2, .slice u2 B.r2.length e2, .map mb] 32), box b7 (.cells #[.int .i64 A.p0, .int .i64 A.q0, .slice s0 A.r0.length c0, .int .i64 A.p1, .int .i64 A.q1, .slice s1 A.r1.length c1, .int .i64 A.p2, .int .i64 A.q2, .slice s2 A.r2.length c2, .map m] 32), isl 5 (.slice u0 B.r0.length e0) (B.r0.map rowC), isl 5 (.slice u1 B.r1.length e1) (B.r1.map rowC), isl 5 (.slice u2 B.r2.length e2) (B.r2.map rowC), isl 5 (.slice s0 A.r0.length c0) (A.r0.map rowC), isl 5 (.slice s1 A.r1.length c1) (A.r1.map rowC), isl 5 (.slice s2 A.r2.length c2) (A.r2.map rowC)] → Calls Tryd.prog 14 #[.agg #[.int .i64 B.p0, .int .i64 B.q0, .slice u0 B.r0.length e0, .int .i64 B.p1, .int .i64 B.q1, .slice u1 B.r1.length e1, .int .i64 B.p2, .int .i64 B.q2, .slice u2 B.r2.length e2, .map mb], .agg #[.int .i64 p, .int .i64 q, .slice sv rs.length cv]] w fun e w' => e = .returned (.tuple #[.agg #[.int .i64 0, .int .i64 0, .slice none 0 0, .int .i64 0, .int .i64 0, .slice none 0 0, .int .i64 0, .int .i64 0, .slice none 0 0, .map none], .int .i64 (accE B p q rs)]) ∧ Below w.heap.size w w' := fun w h1 => (AC0 w h1).mono (fun e w' he => by
          unfold AccPost at he
          rw [if_neg hacc] at he
          exact he)
        have hc1 : (accE B p q rs == 0) = false := by simpa using hacc
        have HS := Lib.hid (show Best T' B by have := HBN.out; rwa [stepI, if_neg hacc] at this)
        clear AC0 hacc HBN
        generalize accE B p q rs = ce at *
        go_upto_region 14 with fail
        go_cut [13] (fun e wx => e = .int .i64 ce ∧ Own WB wx [box b9 (.cells #[.int .i64 B.p0, .int .i64 B.q0, .slice u0 B.r0.length e0, .int .i64 B.p1, .int .i64 B.q1, .slice u1 B.r1.length e1, .int .i64 B.p2, .int .i64 B.q2, .slice u2 B.r2.length e2, .map mb] 32), box b7 (.cells #[.int .i64 A.p0, .int .i64 A.q0, .slice s0 A.r0.length c0, .int .i64 A.p1, .int .i64 A.q1, .slice s1 A.r1.length c1, .int .i64 A.p2, .int .i64 A.q2, .slice s2 A.r2.length c2, .map m] 32), isl 5 (.slice u0 B.r0.length e0) (B.r0.map rowC), isl 5 (.slice u1 B.r1.length e1) (B.r1.map rowC), isl 5 (.slice u2 B.r2.length e2) (B.r2.map rowC), isl 5 (.slice s0 A.r0.length c0) (A.r0.map rowC), isl 5 (.slice s1 A.r1.length c1) (A.r1.map rowC), isl 5 (.slice s2 A.r2.length c2) (A.r2.map rowC)])
        case first =>
          refine region_treeO [box b9 (.cells #[.int .i64 B.p0, .int .i64 B.q0, .slice u0 B.r0.length e0, .int .i64 B.p1, .int .i64 B.q1, .slice u1 B.r1.length e1, .int .i64 B.p2, .int .i64 B.q2, .slice u2 B.r2.length e2, .map mb] 32)] [(0, true), (1, true), (2, true), (3, true), (4, true), (5, true), (6, true), (7, true), (8, true), (9, true), (10, true), (11, true), (13, true), (14, true), (15, true), (18, true)] (.fork [(0, true), (1, true), (2, true), (3, true), (4, true), (5, true), (6, true), (7, true), (8, true), (9, true), (10, true), (11, true)] 12 16 (.fin [(13, true), (14, true), (15, true), (16, false), (17, false), (18, true)]) (.fin [(12, false), (13, true), (14, true), (15, true), (17, false), (18, true)])) HO (by with_reducible (repeat (first | exact List.nil_sublist _ | apply List.Sublist.cons_cons | apply List.Sublist.cons))) (by kernel_rfl) (by kernel_rfl) ?_
          clear HO
          intro w HO
          refine wpS_fork ?_
          repeat (first | ((with_reducible apply wpSched_loadAll); exact rfl; exact rfl; exact rfl; (repeat (with_reducible (first | exact At.head _ | apply At.tail))); infer_instance; exact rfl; exact rfl; (simp only [Act.put, List.setIfInBounds_toArray, List.set_cons_succ, List.set_cons_zero])) | ((with_reducible apply wpSched_loadAt); exact rfl; exact rfl; exact rfl; exact (fun w' hw => hst.out w' (hw _ List.mem_cons_self)); infer_instance; exact rfl; exact rfl; (simp only [Act.put, List.setIfInBounds_toArray, List.set_cons_succ, List.set_cons_zero])) | ((with_reducible apply wpSched_loadAt1); exact rfl; exact rfl; exact rfl; exact (fun w' hw => htn.out w' (hw _ List.mem_cons_self)); infer_instance; exact rfl; (simp only [Act.put, List.setIfInBounds_toArray, List.set_cons_succ, List.set_cons_zero])) | ((with_reducible apply wpSched_pure); exact rfl; exact rfl; (intro w'; go_simp; try with_reducible rfl); (simp only [Act.put, List.setIfInBounds_toArray, List.set_cons_succ, List.set_cons_zero])))
          refine fork_end rfl rfl ?_ ?_
          · go_wp2_with ((go_at_call 14; go_must (((with_reducible refine (AC _ HO).mono ?_); (rintro e w ⟨rfl, hb⟩; replace HO := HO.call hb; clear hb)))))
            refine thenQ_keep (HO.heldO (by with_reducible (repeat (first | exact List.nil_sublist _ | apply List.Sublist.cons_cons | apply List.Sublist.cons)))) ?_
            refine wpS_fin ?_
            repeat ((with_reducible apply wpSched_pure); exact rfl; exact rfl; (intro w'; go_simp; try with_reducible rfl); (simp only [Act.put, List.setIfInBounds_toArray, List.set_cons_succ, List.set_cons_zero]))
            ((with_reducible apply wpSched_loud); exact rfl; (first | ((with_reducible apply wpList_boxAgg _ HO rfl); exact rfl; exact rfl; exact rfl; clear HO; intro b12 w HO; (simp only [Act.put, List.setIfInBounds_toArray, List.set_cons_succ, List.set_cons_zero])) | ((with_reducible apply wpList_allocAgg _ HO rfl); exact rfl; infer_instance; exact rfl; clear HO; intro b12 w HO; (simp only [Act.put, List.setIfInBounds_toArray, List.set_cons_succ, List.set_cons_zero])) | ((with_reducible apply wpList_boxOne _ HO rfl); exact rfl; (first | (simp [Act.eval]; rfl) | exact rfl); exact rfl; exact rfl; clear HO; intro b12 w HO; (simp only [Act.put, List.setIfInBounds_toArray, List.set_cons_succ, List.set_cons_zero])) | ((with_reducible apply wpList_alloc _ HO rfl); exact rfl; infer_instance; exact rfl; exact rfl; clear HO; intro b12 w HO; (simp only [Act.put, List.setIfInBounds_toArray, List.set_cons_succ, List.set_cons_zero]))))
            refine wpList_nil (thenQ_keep (HO.heldO (by with_reducible (repeat (first | exact List.nil_sublist _ | apply List.Sublist.cons_cons | apply List.Sublist.cons)))) ?_)
            ((with_reducible apply wpSched_loud); exact rfl; ((with_reducible apply wpList_storeAll HO); exact rfl; exact rfl; exact rfl; (repeat (with_reducible (first | exact At.head _ | apply At.tail))); infer_instance; exact rfl; exact rfl; exact rfl; exact rfl; clear HO; intro w HO; (simp only [Act.put])))
            refine wpList_nil (thenQ_keep (HO.heldO (by with_reducible (repeat (first | exact List.nil_sublist _ | apply List.Sublist.cons_cons | apply List.Sublist.cons)))) ?_)
            ((with_reducible apply wpSched_pure); exact rfl; exact rfl; (intro w'; go_simp; try with_reducible rfl); (simp only [Act.put, List.setIfInBounds_toArray, List.set_cons_succ, List.set_cons_zero]))
            refine wpSched_end ?_
            go_wp2_with fail
            go_meet
            exact ⟨rfl, HO.tail⟩
          · (first | ((with_reducible apply wpList_boxAgg _ HO rfl); exact rfl; exact rfl; exact rfl; clear HO; intro b12 w HO; (simp only [Act.put, List.setIfInBounds_toArray, List.set_cons_succ, List.set_cons_zero])) | ((with_reducible apply wpList_allocAgg _ HO rfl); exact rfl; infer_instance; exact rfl; clear HO; intro b12 w HO; (simp only [Act.put, List.setIfInBounds_toArray, List.set_cons_succ, List.set_cons_zero])) | ((with_reducible apply wpList_boxOne _ HO rfl); exact rfl; (first | (simp [Act.eval]; rfl) | exact rfl); exact rfl; exact rfl; clear HO; intro b12 w HO; (simp only [Act.put, List.setIfInBounds_toArray, List.set_cons_succ, List.set_cons_zero])) | ((with_reducible apply wpList_alloc _ HO rfl); exact rfl; infer_instance; exact rfl; exact rfl; clear HO; intro b12 w HO; (simp only [Act.put, List.setIfInBounds_toArray, List.set_cons_succ, List.set_cons_zero])))
            refine wpList_nil (thenQ_keep (HO.heldO (by with_reducible (repeat (first | exact List.nil_sublist _ | apply List.Sublist.cons_cons | apply List.Sublist.cons)))) ?_)
            refine wpS_fin ?_
            ((with_reducible apply wpSched_loud); exact rfl; go_wp2_with ((go_at_call 14; go_must (((with_reducible refine (AC _ HO.tail).mono ?_); (rintro e w ⟨rfl, hb⟩; replace HO := HO.call hb; clear hb))))))
            refine thenQ_keep (HO.heldO (by with_reducible (repeat (first | exact List.nil_sublist _ | apply List.Sublist.cons_cons | apply List.Sublist.cons)))) ?_
            repeat ((with_reducible apply wpSched_pure); exact rfl; exact rfl; (intro w'; go_simp; try with_reducible rfl); (simp only [Act.put, List.setIfInBounds_toArray, List.set_cons_succ, List.set_cons_zero]))
            ((with_reducible apply wpSched_loud); exact rfl; ((with_reducible apply wpList_storeAll HO); exact rfl; exact rfl; exact rfl; (repeat (with_reducible (first | exact At.head _ | apply At.tail))); infer_instance; exact rfl; exact rfl; exact rfl; exact rfl; clear HO; intro w HO; (simp only [Act.put])))
            refine wpList_nil (thenQ_keep (HO.heldO (by with_reducible (repeat (first | exact List.nil_sublist _ | apply List.Sublist.cons_cons | apply List.Sublist.cons)))) ?_)
            ((with_reducible apply wpSched_pure); exact rfl; exact rfl; (intro w'; go_simp; try with_reducible rfl); (simp only [Act.put, List.setIfInBounds_toArray, List.set_cons_succ, List.set_cons_zero]))
            refine wpSched_end ?_
            go_wp2_with fail
            go_meet
            exact ⟨rfl, HO.tail⟩
        clear HO
        obtain ⟨rfl, HO⟩ := hcut
        go_wp2_with fail
        go_roundw
        case rel => exact ⟨j + 1, by omega, by go_num, T', B, u0, u1, u2, e0, e1, e2, mb, HS.out, hBok, hT1, HO⟩
        case measure => simp [intOf] <;> omega
      obtain ⟨hok, -⟩ := accE_ok hacc
      have HS : ∀ B', B' = B.put p q rs → Best T' B' := fun B' h => by rw [h]; have := HBN.out; rwa [stepI, if_pos hacc] at this
      replace HS := Lib.hid HS
      obtain ⟨_, _, hp0, hp2, _, _⟩ := okStmt_ok hok
      have hp : p = 0 ∨ p = 1 ∨ p = 2 := by omega
      clear HBN
      rcases hp with rfl | rfl | rfl
      · have AC : ∀ w, Own WB w [box b9 (.cells #[.int .i64 B.p0, .int .i64 B.q0, .slice u0 B.r0.length e0, .int .i64 B.p1, .int .i64 B.q1, .slice u1 B.r1.length e1, .int .i64 B.p2, .int .i64 B.q2, .slice u2 B.r2.length e2, .map mb] 32), box b7 (.cells #[.int .i64 A.p0, .int .i64 A.q0, .slice s0 A.r0.length c0, .int .i64 A.p1, .int .i64 A.q1, .slice s1 A.r1.length c1, .int .i64 A.p2, .int .i64 A.q2, .slice s2 A.r2.length c2, .map m] 32), isl 5 (.slice u0 B.r0.length e0) (B.r0.map rowC), isl 5 (.slice u1 B.r1.length e1) (B.r1.map rowC), isl 5 (.slice u2 B.r2.length e2) (B.r2.map rowC), isl 5 (.slice s0 A.r0.length c0) (A.r0.map rowC), isl 5 (.slice s1 A.r1.length c1) (A.r1.map rowC), isl 5 (.slice s2 A.r2.length c2) (A.r2.map rowC)] → Calls Tryd.prog 14 #[.agg #[.int .i64 B.p0, .int .i64 B.q0, .slice u0 B.r0.length e0, .int .i64 B.p1, .int .i64 B.q1, .slice u1 B.r1.length e1, .int .i64 B.p2, .int .i64 B.q2, .slice u2 B.r2.length e2, .map mb], .agg #[.int .i64 0, .int .i64 q, .slice sv rs.length cv]] w fun e w' => ∃ bm nm su cu, e = .returned (.tuple #[.agg #[.int .i64 0, .int .i64 q, .slice su rs.length cu, .int .i64 B.p1, .int .i64 B.q1, .slice u1 B.r1.length e1, .int .i64 B.p2, .int .i64 B.q2, .slice u2 B.r2.length e2, .map (some bm)], .int .i64 0]) ∧ Own w w' [mapE Tryd.prog 43 bm nm (allF (B.put 0 q rs)), row 45 5 (.slice su rs.length cu) (rs.map rowC)] := fun w h1 => (AC0 w h1).mono (fun e w' he => by
          unfold AccPost at he
          rw [if_pos hacc] at he
          obtain ⟨bm, nm, u, hO, ⟨su, cu, rfl⟩, rfl⟩ := he
          exact ⟨bm, nm, su, cu, rfl, hO⟩)
        clear AC0 hacc
        go_upto_region 14 with fail
        go_cut [12, 13] (fun x e wx => ∃ (b12 bm nm : Nat) (su : Option Addr) (cu : Nat), x = .pointer (some ⟨b12, 0, none⟩) ∧ e = .int .i64 0 ∧ Own WB wx (box b12 (.cells #[.int .i64 0, .int .i64 q, .slice su rs.length cu, .int .i64 B.p1, .int .i64 B.q1, .slice u1 B.r1.length e1, .int .i64 B.p2, .int .i64 B.q2, .slice u2 B.r2.length e2, .map (some bm)] 32) :: mapE Tryd.prog 43 bm nm (allF (B.put 0 q rs)) :: row 45 5 (.slice su rs.length cu) (rs.map rowC) :: [box b9 (.cells #[.int .i64 B.p0, .int .i64 B.q0, .slice u0 B.r0.length e0, .int .i64 B.p1, .int .i64 B.q1, .slice u1 B.r1.length e1, .int .i64 B.p2, .int .i64 B.q2, .slice u2 B.r2.length e2, .map mb] 32), box b7 (.cells #[.int .i64 A.p0, .int .i64 A.q0, .slice s0 A.r0.length c0, .int .i64 A.p1, .int .i64 A.q1, .slice s1 A.r1.length c1, .int .i64 A.p2, .int .i64 A.q2, .slice s2 A.r2.length c2, .map m] 32), isl 5 (.slice u0 B.r0.length e0) (B.r0.map rowC), isl 5 (.slice u1 B.r1.length e1) (B.r1.map rowC), isl 5 (.slice u2 B.r2.length e2) (B.r2.map rowC), isl 5 (.slice s0 A.r0.length c0) (A.r0.map rowC), isl 5 (.slice s1 A.r1.length c1) (A.r1.map rowC), isl 5 (.slice s2 A.r2.length c2) (A.r2.map rowC)]))
        case first =>
          refine region_treeO [box b9 (.cells #[.int .i64 B.p0, .int .i64 B.q0, .slice u0 B.r0.length e0, .int .i64 B.p1, .int .i64 B.q1, .slice u1 B.r1.length e1, .int .i64 B.p2, .int .i64 B.q2, .slice u2 B.r2.length e2, .map mb] 32)] [(0, true), (1, true), (2, true), (3, true), (4, true), (5, true), (6, true), (7, true), (8, true), (9, true), (10, true), (11, true), (13, true), (14, true), (15, true), (18, true)] (.fork [(0, true), (1, true), (2, true), (3, true), (4, true), (5, true), (6, true), (7, true), (8, true), (9, true), (10, true), (11, true)] 12 16 (.fin [(13, true), (14, true), (15, true), (16, false), (17, false), (18, true)]) (.fin [(12, false), (13, true), (14, true), (15, true), (17, false), (18, true)])) HO (by with_reducible (repeat (first | exact List.nil_sublist _ | apply List.Sublist.cons_cons | apply List.Sublist.cons))) (by kernel_rfl) (by kernel_rfl) ?_
          clear HO
          intro w HO
          refine wpS_fork ?_
          repeat (first | ((with_reducible apply wpSched_loadAll); exact rfl; exact rfl; exact rfl; (repeat (with_reducible (first | exact At.head _ | apply At.tail))); infer_instance; exact rfl; exact rfl; (simp only [Act.put, List.setIfInBounds_toArray, List.set_cons_succ, List.set_cons_zero])) | ((with_reducible apply wpSched_loadAt); exact rfl; exact rfl; exact rfl; exact (fun w' hw => hst.out w' (hw _ List.mem_cons_self)); infer_instance; exact rfl; exact rfl; (simp only [Act.put, List.setIfInBounds_toArray, List.set_cons_succ, List.set_cons_zero])) | ((with_reducible apply wpSched_loadAt1); exact rfl; exact rfl; exact rfl; exact (fun w' hw => htn.out w' (hw _ List.mem_cons_self)); infer_instance; exact rfl; (simp only [Act.put, List.setIfInBounds_toArray, List.set_cons_succ, List.set_cons_zero])) | ((with_reducible apply wpSched_pure); exact rfl; exact rfl; (intro w'; go_simp; try with_reducible rfl); (simp only [Act.put, List.setIfInBounds_toArray, List.set_cons_succ, List.set_cons_zero])))
          refine fork_end rfl rfl ?_ ?_
          · go_wp2_with ((go_at_call 14; go_must ((with_reducible refine (AC _ HO).mono ?_); rintro e w ⟨bm, nm, su, cu, rfl, HO1⟩; replace HO := HO.lift HO1; clear HO1; simp only [List.cons_append, List.nil_append] at HO)))
            refine thenQ_keep (HO.heldO (by with_reducible (repeat (first | exact List.nil_sublist _ | apply List.Sublist.cons_cons | apply List.Sublist.cons)))) ?_
            refine wpS_fin ?_
            repeat ((with_reducible apply wpSched_pure); exact rfl; exact rfl; (intro w'; go_simp; try with_reducible rfl); (simp only [Act.put, List.setIfInBounds_toArray, List.set_cons_succ, List.set_cons_zero]))
            ((with_reducible apply wpSched_loud); exact rfl; (first | ((with_reducible apply wpList_boxAgg _ HO rfl); exact rfl; exact rfl; exact rfl; clear HO; intro b12 w HO; (simp only [Act.put, List.setIfInBounds_toArray, List.set_cons_succ, List.set_cons_zero])) | ((with_reducible apply wpList_allocAgg _ HO rfl); exact rfl; infer_instance; exact rfl; clear HO; intro b12 w HO; (simp only [Act.put, List.setIfInBounds_toArray, List.set_cons_succ, List.set_cons_zero])) | ((with_reducible apply wpList_boxOne _ HO rfl); exact rfl; (first | (simp [Act.eval]; rfl) | exact rfl); exact rfl; exact rfl; clear HO; intro b12 w HO; (simp only [Act.put, List.setIfInBounds_toArray, List.set_cons_succ, List.set_cons_zero])) | ((with_reducible apply wpList_alloc _ HO rfl); exact rfl; infer_instance; exact rfl; exact rfl; clear HO; intro b12 w HO; (simp only [Act.put, List.setIfInBounds_toArray, List.set_cons_succ, List.set_cons_zero]))))
            refine wpList_nil (thenQ_keep (HO.heldO (by with_reducible (repeat (first | exact List.nil_sublist _ | apply List.Sublist.cons_cons | apply List.Sublist.cons)))) ?_)
            ((with_reducible apply wpSched_loud); exact rfl; ((with_reducible apply wpList_storeAll HO); exact rfl; exact rfl; exact rfl; (repeat (with_reducible (first | exact At.head _ | apply At.tail))); infer_instance; exact rfl; exact rfl; exact rfl; exact rfl; clear HO; intro w HO; (simp only [Act.put])))
            refine wpList_nil (thenQ_keep (HO.heldO (by with_reducible (repeat (first | exact List.nil_sublist _ | apply List.Sublist.cons_cons | apply List.Sublist.cons)))) ?_)
            ((with_reducible apply wpSched_pure); exact rfl; exact rfl; (intro w'; go_simp; try with_reducible rfl); (simp only [Act.put, List.setIfInBounds_toArray, List.set_cons_succ, List.set_cons_zero]))
            refine wpSched_end ?_
            go_wp2_with fail
            go_meet
            exact ⟨b12, bm, nm, su, cu, rfl, rfl, HO⟩
          · (first | ((with_reducible apply wpList_boxAgg _ HO rfl); exact rfl; exact rfl; exact rfl; clear HO; intro b12 w HO; (simp only [Act.put, List.setIfInBounds_toArray, List.set_cons_succ, List.set_cons_zero])) | ((with_reducible apply wpList_allocAgg _ HO rfl); exact rfl; infer_instance; exact rfl; clear HO; intro b12 w HO; (simp only [Act.put, List.setIfInBounds_toArray, List.set_cons_succ, List.set_cons_zero])) | ((with_reducible apply wpList_boxOne _ HO rfl); exact rfl; (first | (simp [Act.eval]; rfl) | exact rfl); exact rfl; exact rfl; clear HO; intro b12 w HO; (simp only [Act.put, List.setIfInBounds_toArray, List.set_cons_succ, List.set_cons_zero])) | ((with_reducible apply wpList_alloc _ HO rfl); exact rfl; infer_instance; exact rfl; exact rfl; clear HO; intro b12 w HO; (simp only [Act.put, List.setIfInBounds_toArray, List.set_cons_succ, List.set_cons_zero])))
            refine wpList_nil (thenQ_keep (HO.heldO (by with_reducible (repeat (first | exact List.nil_sublist _ | apply List.Sublist.cons_cons | apply List.Sublist.cons)))) ?_)
            refine wpS_fin ?_
            ((with_reducible apply wpSched_loud); exact rfl; go_wp2_with ((go_at_call 14; go_must ((with_reducible refine (AC _ HO.tail).mono ?_); rintro e w ⟨bm, nm, su, cu, rfl, HO1⟩; replace HO := HO.lift HO1; clear HO1; simp only [List.cons_append, List.nil_append] at HO))))
            refine thenQ_keep (HO.heldO (by with_reducible (repeat (first | exact List.nil_sublist _ | apply List.Sublist.cons_cons | apply List.Sublist.cons)))) ?_
            repeat ((with_reducible apply wpSched_pure); exact rfl; exact rfl; (intro w'; go_simp; try with_reducible rfl); (simp only [Act.put, List.setIfInBounds_toArray, List.set_cons_succ, List.set_cons_zero]))
            ((with_reducible apply wpSched_loud); exact rfl; ((with_reducible apply wpList_storeAll HO); exact rfl; exact rfl; exact rfl; (repeat (with_reducible (first | exact At.head _ | apply At.tail))); infer_instance; exact rfl; exact rfl; exact rfl; exact rfl; clear HO; intro w HO; (simp only [Act.put])))
            refine wpList_nil (thenQ_keep (HO.heldO (by with_reducible (repeat (first | exact List.nil_sublist _ | apply List.Sublist.cons_cons | apply List.Sublist.cons)))) ?_)
            ((with_reducible apply wpSched_pure); exact rfl; exact rfl; (intro w'; go_simp; try with_reducible rfl); (simp only [Act.put, List.setIfInBounds_toArray, List.set_cons_succ, List.set_cons_zero]))
            refine wpSched_end ?_
            go_wp2_with fail
            go_meet
            exact ⟨b12, bm, nm, su, cu, rfl, rfl, HO.front3⟩
        clear HO
        obtain ⟨b12, bm, nm, su, cu, rfl, rfl, HO⟩ := hcut
        go_wp2_with (first | (first | go_big_skip | ((with_reducible apply wpList_loadAll HO); exact rfl; exact rfl; (repeat (with_reducible (first | exact At.head _ | apply At.tail))); infer_instance; exact rfl; exact rfl; (simp only [Act.put, List.setIfInBounds_toArray, List.set_cons_succ, List.set_cons_zero])) | ((with_reducible apply wpList_loadOne HO); exact rfl; exact rfl; (repeat (with_reducible (first | exact At.head _ | apply At.tail))); exact rfl; infer_instance; exact rfl; (simp only [Act.put, List.setIfInBounds_toArray, List.set_cons_succ, List.set_cons_zero]))) | ((with_reducible apply wpList_storeAll HO); exact rfl; exact rfl; exact rfl; (repeat (with_reducible (first | exact At.head _ | apply At.tail))); infer_instance; exact rfl; exact rfl; exact rfl; exact rfl; clear HO; intro w HO; (simp only [Act.put])))
        go_roundw
        case rel => exact ⟨j + 1, by omega, by go_num, T', B.put 0 q rs, su, u1, u2, cu, e1, e2, some bm, HS.out _ rfl, put_ok hBok hok, hT1, ((Own.rowIsl HO.tail.tail (.head _)).sub (by exact .cons_cons _ (.cons_cons _ (.cons_cons _ (.cons _ (.cons_cons _ (.cons_cons _ (.cons_cons _ (.cons_cons _ (.cons_cons _ (List.Sublist.refl _))))))))))).perm ((List.perm_middle (l₁ := [_, _]) (l₂ := [_, _, _, _, _])).symm)⟩
        case measure => simp [intOf] <;> omega
      · have AC : ∀ w, Own WB w [box b9 (.cells #[.int .i64 B.p0, .int .i64 B.q0, .slice u0 B.r0.length e0, .int .i64 B.p1, .int .i64 B.q1, .slice u1 B.r1.length e1, .int .i64 B.p2, .int .i64 B.q2, .slice u2 B.r2.length e2, .map mb] 32), box b7 (.cells #[.int .i64 A.p0, .int .i64 A.q0, .slice s0 A.r0.length c0, .int .i64 A.p1, .int .i64 A.q1, .slice s1 A.r1.length c1, .int .i64 A.p2, .int .i64 A.q2, .slice s2 A.r2.length c2, .map m] 32), isl 5 (.slice u0 B.r0.length e0) (B.r0.map rowC), isl 5 (.slice u1 B.r1.length e1) (B.r1.map rowC), isl 5 (.slice u2 B.r2.length e2) (B.r2.map rowC), isl 5 (.slice s0 A.r0.length c0) (A.r0.map rowC), isl 5 (.slice s1 A.r1.length c1) (A.r1.map rowC), isl 5 (.slice s2 A.r2.length c2) (A.r2.map rowC)] → Calls Tryd.prog 14 #[.agg #[.int .i64 B.p0, .int .i64 B.q0, .slice u0 B.r0.length e0, .int .i64 B.p1, .int .i64 B.q1, .slice u1 B.r1.length e1, .int .i64 B.p2, .int .i64 B.q2, .slice u2 B.r2.length e2, .map mb], .agg #[.int .i64 1, .int .i64 q, .slice sv rs.length cv]] w fun e w' => ∃ bm nm su cu, e = .returned (.tuple #[.agg #[.int .i64 B.p0, .int .i64 B.q0, .slice u0 B.r0.length e0, .int .i64 1, .int .i64 q, .slice su rs.length cu, .int .i64 B.p2, .int .i64 B.q2, .slice u2 B.r2.length e2, .map (some bm)], .int .i64 0]) ∧ Own w w' [mapE Tryd.prog 43 bm nm (allF (B.put 1 q rs)), row 45 5 (.slice su rs.length cu) (rs.map rowC)] := fun w h1 => (AC0 w h1).mono (fun e w' he => by
          unfold AccPost at he
          rw [if_pos hacc] at he
          obtain ⟨bm, nm, u, hO, ⟨su, cu, rfl⟩, rfl⟩ := he
          exact ⟨bm, nm, su, cu, rfl, hO⟩)
        clear AC0 hacc
        go_upto_region 14 with fail
        go_cut [12, 13] (fun x e wx => ∃ (b12 bm nm : Nat) (su : Option Addr) (cu : Nat), x = .pointer (some ⟨b12, 0, none⟩) ∧ e = .int .i64 0 ∧ Own WB wx (box b12 (.cells #[.int .i64 B.p0, .int .i64 B.q0, .slice u0 B.r0.length e0, .int .i64 1, .int .i64 q, .slice su rs.length cu, .int .i64 B.p2, .int .i64 B.q2, .slice u2 B.r2.length e2, .map (some bm)] 32) :: mapE Tryd.prog 43 bm nm (allF (B.put 1 q rs)) :: row 45 5 (.slice su rs.length cu) (rs.map rowC) :: [box b9 (.cells #[.int .i64 B.p0, .int .i64 B.q0, .slice u0 B.r0.length e0, .int .i64 B.p1, .int .i64 B.q1, .slice u1 B.r1.length e1, .int .i64 B.p2, .int .i64 B.q2, .slice u2 B.r2.length e2, .map mb] 32), box b7 (.cells #[.int .i64 A.p0, .int .i64 A.q0, .slice s0 A.r0.length c0, .int .i64 A.p1, .int .i64 A.q1, .slice s1 A.r1.length c1, .int .i64 A.p2, .int .i64 A.q2, .slice s2 A.r2.length c2, .map m] 32), isl 5 (.slice u0 B.r0.length e0) (B.r0.map rowC), isl 5 (.slice u1 B.r1.length e1) (B.r1.map rowC), isl 5 (.slice u2 B.r2.length e2) (B.r2.map rowC), isl 5 (.slice s0 A.r0.length c0) (A.r0.map rowC), isl 5 (.slice s1 A.r1.length c1) (A.r1.map rowC), isl 5 (.slice s2 A.r2.length c2) (A.r2.map rowC)]))
        case first =>
          refine region_treeO [box b9 (.cells #[.int .i64 B.p0, .int .i64 B.q0, .slice u0 B.r0.length e0, .int .i64 B.p1, .int .i64 B.q1, .slice u1 B.r1.length e1, .int .i64 B.p2, .int .i64 B.q2, .slice u2 B.r2.length e2, .map mb] 32)] [(0, true), (1, true), (2, true), (3, true), (4, true), (5, true), (6, true), (7, true), (8, true), (9, true), (10, true), (11, true), (13, true), (14, true), (15, true), (18, true)] (.fork [(0, true), (1, true), (2, true), (3, true), (4, true), (5, true), (6, true), (7, true), (8, true), (9, true), (10, true), (11, true)] 12 16 (.fin [(13, true), (14, true), (15, true), (16, false), (17, false), (18, true)]) (.fin [(12, false), (13, true), (14, true), (15, true), (17, false), (18, true)])) HO (by with_reducible (repeat (first | exact List.nil_sublist _ | apply List.Sublist.cons_cons | apply List.Sublist.cons))) (by kernel_rfl) (by kernel_rfl) ?_
          clear HO
          intro w HO
          refine wpS_fork ?_
          repeat (first | ((with_reducible apply wpSched_loadAll); exact rfl; exact rfl; exact rfl; (repeat (with_reducible (first | exact At.head _ | apply At.tail))); infer_instance; exact rfl; exact rfl; (simp only [Act.put, List.setIfInBounds_toArray, List.set_cons_succ, List.set_cons_zero])) | ((with_reducible apply wpSched_loadAt); exact rfl; exact rfl; exact rfl; exact (fun w' hw => hst.out w' (hw _ List.mem_cons_self)); infer_instance; exact rfl; exact rfl; (simp only [Act.put, List.setIfInBounds_toArray, List.set_cons_succ, List.set_cons_zero])) | ((with_reducible apply wpSched_loadAt1); exact rfl; exact rfl; exact rfl; exact (fun w' hw => htn.out w' (hw _ List.mem_cons_self)); infer_instance; exact rfl; (simp only [Act.put, List.setIfInBounds_toArray, List.set_cons_succ, List.set_cons_zero])) | ((with_reducible apply wpSched_pure); exact rfl; exact rfl; (intro w'; go_simp; try with_reducible rfl); (simp only [Act.put, List.setIfInBounds_toArray, List.set_cons_succ, List.set_cons_zero])))
          refine fork_end rfl rfl ?_ ?_
          · go_wp2_with ((go_at_call 14; go_must ((with_reducible refine (AC _ HO).mono ?_); rintro e w ⟨bm, nm, su, cu, rfl, HO1⟩; replace HO := HO.lift HO1; clear HO1; simp only [List.cons_append, List.nil_append] at HO)))
            refine thenQ_keep (HO.heldO (by with_reducible (repeat (first | exact List.nil_sublist _ | apply List.Sublist.cons_cons | apply List.Sublist.cons)))) ?_
            refine wpS_fin ?_
            repeat ((with_reducible apply wpSched_pure); exact rfl; exact rfl; (intro w'; go_simp; try with_reducible rfl); (simp only [Act.put, List.setIfInBounds_toArray, List.set_cons_succ, List.set_cons_zero]))
            ((with_reducible apply wpSched_loud); exact rfl; (first | ((with_reducible apply wpList_boxAgg _ HO rfl); exact rfl; exact rfl; exact rfl; clear HO; intro b12 w HO; (simp only [Act.put, List.setIfInBounds_toArray, List.set_cons_succ, List.set_cons_zero])) | ((with_reducible apply wpList_allocAgg _ HO rfl); exact rfl; infer_instance; exact rfl; clear HO; intro b12 w HO; (simp only [Act.put, List.setIfInBounds_toArray, List.set_cons_succ, List.set_cons_zero])) | ((with_reducible apply wpList_boxOne _ HO rfl); exact rfl; (first | (simp [Act.eval]; rfl) | exact rfl); exact rfl; exact rfl; clear HO; intro b12 w HO; (simp only [Act.put, List.setIfInBounds_toArray, List.set_cons_succ, List.set_cons_zero])) | ((with_reducible apply wpList_alloc _ HO rfl); exact rfl; infer_instance; exact rfl; exact rfl; clear HO; intro b12 w HO; (simp only [Act.put, List.setIfInBounds_toArray, List.set_cons_succ, List.set_cons_zero]))))
            refine wpList_nil (thenQ_keep (HO.heldO (by with_reducible (repeat (first | exact List.nil_sublist _ | apply List.Sublist.cons_cons | apply List.Sublist.cons)))) ?_)
            ((with_reducible apply wpSched_loud); exact rfl; ((with_reducible apply wpList_storeAll HO); exact rfl; exact rfl; exact rfl; (repeat (with_reducible (first | exact At.head _ | apply At.tail))); infer_instance; exact rfl; exact rfl; exact rfl; exact rfl; clear HO; intro w HO; (simp only [Act.put])))
            refine wpList_nil (thenQ_keep (HO.heldO (by with_reducible (repeat (first | exact List.nil_sublist _ | apply List.Sublist.cons_cons | apply List.Sublist.cons)))) ?_)
            ((with_reducible apply wpSched_pure); exact rfl; exact rfl; (intro w'; go_simp; try with_reducible rfl); (simp only [Act.put, List.setIfInBounds_toArray, List.set_cons_succ, List.set_cons_zero]))
            refine wpSched_end ?_
            go_wp2_with fail
            go_meet
            exact ⟨b12, bm, nm, su, cu, rfl, rfl, HO⟩
          · (first | ((with_reducible apply wpList_boxAgg _ HO rfl); exact rfl; exact rfl; exact rfl; clear HO; intro b12 w HO; (simp only [Act.put, List.setIfInBounds_toArray, List.set_cons_succ, List.set_cons_zero])) | ((with_reducible apply wpList_allocAgg _ HO rfl); exact rfl; infer_instance; exact rfl; clear HO; intro b12 w HO; (simp only [Act.put, List.setIfInBounds_toArray, List.set_cons_succ, List.set_cons_zero])) | ((with_reducible apply wpList_boxOne _ HO rfl); exact rfl; (first | (simp [Act.eval]; rfl) | exact rfl); exact rfl; exact rfl; clear HO; intro b12 w HO; (simp only [Act.put, List.setIfInBounds_toArray, List.set_cons_succ, List.set_cons_zero])) | ((with_reducible apply wpList_alloc _ HO rfl); exact rfl; infer_instance; exact rfl; exact rfl; clear HO; intro b12 w HO; (simp only [Act.put, List.setIfInBounds_toArray, List.set_cons_succ, List.set_cons_zero])))
            refine wpList_nil (thenQ_keep (HO.heldO (by with_reducible (repeat (first | exact List.nil_sublist _ | apply List.Sublist.cons_cons | apply List.Sublist.cons)))) ?_)
            refine wpS_fin ?_
            ((with_reducible apply wpSched_loud); exact rfl; go_wp2_with ((go_at_call 14; go_must ((with_reducible refine (AC _ HO.tail).mono ?_); rintro e w ⟨bm, nm, su, cu, rfl, HO1⟩; replace HO := HO.lift HO1; clear HO1; simp only [List.cons_append, List.nil_append] at HO))))
            refine thenQ_keep (HO.heldO (by with_reducible (repeat (first | exact List.nil_sublist _ | apply List.Sublist.cons_cons | apply List.Sublist.cons)))) ?_
            repeat ((with_reducible apply wpSched_pure); exact rfl; exact rfl; (intro w'; go_simp; try with_reducible rfl); (simp only [Act.put, List.setIfInBounds_toArray, List.set_cons_succ, List.set_cons_zero]))
            ((with_reducible apply wpSched_loud); exact rfl; ((with_reducible apply wpList_storeAll HO); exact rfl; exact rfl; exact rfl; (repeat (with_reducible (first | exact At.head _ | apply At.tail))); infer_instance; exact rfl; exact rfl; exact rfl; exact rfl; clear HO; intro w HO; (simp only [Act.put])))
            refine wpList_nil (thenQ_keep (HO.heldO (by with_reducible (repeat (first | exact List.nil_sublist _ | apply List.Sublist.cons_cons | apply List.Sublist.cons)))) ?_)
            ((with_reducible apply wpSched_pure); exact rfl; exact rfl; (intro w'; go_simp; try with_reducible rfl); (simp only [Act.put, List.setIfInBounds_toArray, List.set_cons_succ, List.set_cons_zero]))
            refine wpSched_end ?_
            go_wp2_with fail
            go_meet
            exact ⟨b12, bm, nm, su, cu, rfl, rfl, HO.front3⟩
        clear HO
        obtain ⟨b12, bm, nm, su, cu, rfl, rfl, HO⟩ := hcut
        go_wp2_with (first | (first | go_big_skip | ((with_reducible apply wpList_loadAll HO); exact rfl; exact rfl; (repeat (with_reducible (first | exact At.head _ | apply At.tail))); infer_instance; exact rfl; exact rfl; (simp only [Act.put, List.setIfInBounds_toArray, List.set_cons_succ, List.set_cons_zero])) | ((with_reducible apply wpList_loadOne HO); exact rfl; exact rfl; (repeat (with_reducible (first | exact At.head _ | apply At.tail))); exact rfl; infer_instance; exact rfl; (simp only [Act.put, List.setIfInBounds_toArray, List.set_cons_succ, List.set_cons_zero]))) | ((with_reducible apply wpList_storeAll HO); exact rfl; exact rfl; exact rfl; (repeat (with_reducible (first | exact At.head _ | apply At.tail))); infer_instance; exact rfl; exact rfl; exact rfl; exact rfl; clear HO; intro w HO; (simp only [Act.put])))
        go_roundw
        case rel => exact ⟨j + 1, by omega, by go_num, T', B.put 1 q rs, u0, su, u2, e0, cu, e2, some bm, HS.out _ rfl, put_ok hBok hok, hT1, ((Own.rowIsl HO.tail.tail (.head _)).sub (by exact .cons_cons _ (.cons_cons _ (.cons_cons _ (.cons_cons _ (.cons _ (.cons_cons _ (.cons_cons _ (.cons_cons _ (.cons_cons _ (List.Sublist.refl _))))))))))).perm ((List.perm_middle (l₁ := [_, _, _]) (l₂ := [_, _, _, _])).symm)⟩
        case measure => simp [intOf] <;> omega
      · have AC : ∀ w, Own WB w [box b9 (.cells #[.int .i64 B.p0, .int .i64 B.q0, .slice u0 B.r0.length e0, .int .i64 B.p1, .int .i64 B.q1, .slice u1 B.r1.length e1, .int .i64 B.p2, .int .i64 B.q2, .slice u2 B.r2.length e2, .map mb] 32), box b7 (.cells #[.int .i64 A.p0, .int .i64 A.q0, .slice s0 A.r0.length c0, .int .i64 A.p1, .int .i64 A.q1, .slice s1 A.r1.length c1, .int .i64 A.p2, .int .i64 A.q2, .slice s2 A.r2.length c2, .map m] 32), isl 5 (.slice u0 B.r0.length e0) (B.r0.map rowC), isl 5 (.slice u1 B.r1.length e1) (B.r1.map rowC), isl 5 (.slice u2 B.r2.length e2) (B.r2.map rowC), isl 5 (.slice s0 A.r0.length c0) (A.r0.map rowC), isl 5 (.slice s1 A.r1.length c1) (A.r1.map rowC), isl 5 (.slice s2 A.r2.length c2) (A.r2.map rowC)] → Calls Tryd.prog 14 #[.agg #[.int .i64 B.p0, .int .i64 B.q0, .slice u0 B.r0.length e0, .int .i64 B.p1, .int .i64 B.q1, .slice u1 B.r1.length e1, .int .i64 B.p2, .int .i64 B.q2, .slice u2 B.r2.length e2, .map mb], .agg #[.int .i64 2, .int .i64 q, .slice sv rs.length cv]] w fun e w' => ∃ bm nm su cu, e = .returned (.tuple #[.agg #[.int .i64 B.p0, .int .i64 B.q0, .slice u0 B.r0.length e0, .int .i64 B.p1, .int .i64 B.q1, .slice u1 B.r1.length e1, .int .i64 2, .int .i64 q, .slice su rs.length cu, .map (some bm)], .int .i64 0]) ∧ Own w w' [mapE Tryd.prog 43 bm nm (allF (B.put 2 q rs)), row 45 5 (.slice su rs.length cu) (rs.map rowC)] := fun w h1 => (AC0 w h1).mono (fun e w' he => by
          unfold AccPost at he
          rw [if_pos hacc] at he
          obtain ⟨bm, nm, u, hO, ⟨su, cu, rfl⟩, rfl⟩ := he
          exact ⟨bm, nm, su, cu, rfl, hO⟩)
        clear AC0 hacc
        go_upto_region 14 with fail
        go_cut [12, 13] (fun x e wx => ∃ (b12 bm nm : Nat) (su : Option Addr) (cu : Nat), x = .pointer (some ⟨b12, 0, none⟩) ∧ e = .int .i64 0 ∧ Own WB wx (box b12 (.cells #[.int .i64 B.p0, .int .i64 B.q0, .slice u0 B.r0.length e0, .int .i64 B.p1, .int .i64 B.q1, .slice u1 B.r1.length e1, .int .i64 2, .int .i64 q, .slice su rs.length cu, .map (some bm)] 32) :: mapE Tryd.prog 43 bm nm (allF (B.put 2 q rs)) :: row 45 5 (.slice su rs.length cu) (rs.map rowC) :: [box b9 (.cells #[.int .i64 B.p0, .int .i64 B.q0, .slice u0 B.r0.length e0, .int .i64 B.p1, .int .i64 B.q1, .slice u1 B.r1.length e1, .int .i64 B.p2, .int .i64 B.q2, .slice u2 B.r2.length e2, .map mb] 32), box b7 (.cells #[.int .i64 A.p0, .int .i64 A.q0, .slice s0 A.r0.length c0, .int .i64 A.p1, .int .i64 A.q1, .slice s1 A.r1.length c1, .int .i64 A.p2, .int .i64 A.q2, .slice s2 A.r2.length c2, .map m] 32), isl 5 (.slice u0 B.r0.length e0) (B.r0.map rowC), isl 5 (.slice u1 B.r1.length e1) (B.r1.map rowC), isl 5 (.slice u2 B.r2.length e2) (B.r2.map rowC), isl 5 (.slice s0 A.r0.length c0) (A.r0.map rowC), isl 5 (.slice s1 A.r1.length c1) (A.r1.map rowC), isl 5 (.slice s2 A.r2.length c2) (A.r2.map rowC)]))
        case first =>
          refine region_treeO [box b9 (.cells #[.int .i64 B.p0, .int .i64 B.q0, .slice u0 B.r0.length e0, .int .i64 B.p1, .int .i64 B.q1, .slice u1 B.r1.length e1, .int .i64 B.p2, .int .i64 B.q2, .slice u2 B.r2.length e2, .map mb] 32)] [(0, true), (1, true), (2, true), (3, true), (4, true), (5, true), (6, true), (7, true), (8, true), (9, true), (10, true), (11, true), (13, true), (14, true), (15, true), (18, true)] (.fork [(0, true), (1, true), (2, true), (3, true), (4, true), (5, true), (6, true), (7, true), (8, true), (9, true), (10, true), (11, true)] 12 16 (.fin [(13, true), (14, true), (15, true), (16, false), (17, false), (18, true)]) (.fin [(12, false), (13, true), (14, true), (15, true), (17, false), (18, true)])) HO (by with_reducible (repeat (first | exact List.nil_sublist _ | apply List.Sublist.cons_cons | apply List.Sublist.cons))) (by kernel_rfl) (by kernel_rfl) ?_
          clear HO
          intro w HO
          refine wpS_fork ?_
          repeat (first | ((with_reducible apply wpSched_loadAll); exact rfl; exact rfl; exact rfl; (repeat (with_reducible (first | exact At.head _ | apply At.tail))); infer_instance; exact rfl; exact rfl; (simp only [Act.put, List.setIfInBounds_toArray, List.set_cons_succ, List.set_cons_zero])) | ((with_reducible apply wpSched_loadAt); exact rfl; exact rfl; exact rfl; exact (fun w' hw => hst.out w' (hw _ List.mem_cons_self)); infer_instance; exact rfl; exact rfl; (simp only [Act.put, List.setIfInBounds_toArray, List.set_cons_succ, List.set_cons_zero])) | ((with_reducible apply wpSched_loadAt1); exact rfl; exact rfl; exact rfl; exact (fun w' hw => htn.out w' (hw _ List.mem_cons_self)); infer_instance; exact rfl; (simp only [Act.put, List.setIfInBounds_toArray, List.set_cons_succ, List.set_cons_zero])) | ((with_reducible apply wpSched_pure); exact rfl; exact rfl; (intro w'; go_simp; try with_reducible rfl); (simp only [Act.put, List.setIfInBounds_toArray, List.set_cons_succ, List.set_cons_zero])))
          refine fork_end rfl rfl ?_ ?_
          · go_wp2_with ((go_at_call 14; go_must ((with_reducible refine (AC _ HO).mono ?_); rintro e w ⟨bm, nm, su, cu, rfl, HO1⟩; replace HO := HO.lift HO1; clear HO1; simp only [List.cons_append, List.nil_append] at HO)))
            refine thenQ_keep (HO.heldO (by with_reducible (repeat (first | exact List.nil_sublist _ | apply List.Sublist.cons_cons | apply List.Sublist.cons)))) ?_
            refine wpS_fin ?_
            repeat ((with_reducible apply wpSched_pure); exact rfl; exact rfl; (intro w'; go_simp; try with_reducible rfl); (simp only [Act.put, List.setIfInBounds_toArray, List.set_cons_succ, List.set_cons_zero]))
            ((with_reducible apply wpSched_loud); exact rfl; (first | ((with_reducible apply wpList_boxAgg _ HO rfl); exact rfl; exact rfl; exact rfl; clear HO; intro b12 w HO; (simp only [Act.put, List.setIfInBounds_toArray, List.set_cons_succ, List.set_cons_zero])) | ((with_reducible apply wpList_allocAgg _ HO rfl); exact rfl; infer_instance; exact rfl; clear HO; intro b12 w HO; (simp only [Act.put, List.setIfInBounds_toArray, List.set_cons_succ, List.set_cons_zero])) | ((with_reducible apply wpList_boxOne _ HO rfl); exact rfl; (first | (simp [Act.eval]; rfl) | exact rfl); exact rfl; exact rfl; clear HO; intro b12 w HO; (simp only [Act.put, List.setIfInBounds_toArray, List.set_cons_succ, List.set_cons_zero])) | ((with_reducible apply wpList_alloc _ HO rfl); exact rfl; infer_instance; exact rfl; exact rfl; clear HO; intro b12 w HO; (simp only [Act.put, List.setIfInBounds_toArray, List.set_cons_succ, List.set_cons_zero]))))
            refine wpList_nil (thenQ_keep (HO.heldO (by with_reducible (repeat (first | exact List.nil_sublist _ | apply List.Sublist.cons_cons | apply List.Sublist.cons)))) ?_)
            ((with_reducible apply wpSched_loud); exact rfl; ((with_reducible apply wpList_storeAll HO); exact rfl; exact rfl; exact rfl; (repeat (with_reducible (first | exact At.head _ | apply At.tail))); infer_instance; exact rfl; exact rfl; exact rfl; exact rfl; clear HO; intro w HO; (simp only [Act.put])))
            refine wpList_nil (thenQ_keep (HO.heldO (by with_reducible (repeat (first | exact List.nil_sublist _ | apply List.Sublist.cons_cons | apply List.Sublist.cons)))) ?_)
            ((with_reducible apply wpSched_pure); exact rfl; exact rfl; (intro w'; go_simp; try with_reducible rfl); (simp only [Act.put, List.setIfInBounds_toArray, List.set_cons_succ, List.set_cons_zero]))
            refine wpSched_end ?_
            go_wp2_with fail
            go_meet
            exact ⟨b12, bm, nm, su, cu, rfl, rfl, HO⟩
          · (first | ((with_reducible apply wpList_boxAgg _ HO rfl); exact rfl; exact rfl; exact rfl; clear HO; intro b12 w HO; (simp only [Act.put, List.setIfInBounds_toArray, List.set_cons_succ, List.set_cons_zero])) | ((with_reducible apply wpList_allocAgg _ HO rfl); exact rfl; infer_instance; exact rfl; clear HO; intro b12 w HO; (simp only [Act.put, List.setIfInBounds_toArray, List.set_cons_succ, List.set_cons_zero])) | ((with_reducible apply wpList_boxOne _ HO rfl); exact rfl; (first | (simp [Act.eval]; rfl) | exact rfl); exact rfl; exact rfl; clear HO; intro b12 w HO; (simp only [Act.put, List.setIfInBounds_toArray, List.set_cons_succ, List.set_cons_zero])) | ((with_reducible apply wpList_alloc _ HO rfl); exact rfl; infer_instance; exact rfl; exact rfl; clear HO; intro b12 w HO; (simp only [Act.put, List.setIfInBounds_toArray, List.set_cons_succ, List.set_cons_zero])))
            refine wpList_nil (thenQ_keep (HO.heldO (by with_reducible (repeat (first | exact List.nil_sublist _ | apply List.Sublist.cons_cons | apply List.Sublist.cons)))) ?_)
            refine wpS_fin ?_
            ((with_reducible apply wpSched_loud); exact rfl; go_wp2_with ((go_at_call 14; go_must ((with_reducible refine (AC _ HO.tail).mono ?_); rintro e w ⟨bm, nm, su, cu, rfl, HO1⟩; replace HO := HO.lift HO1; clear HO1; simp only [List.cons_append, List.nil_append] at HO))))
            refine thenQ_keep (HO.heldO (by with_reducible (repeat (first | exact List.nil_sublist _ | apply List.Sublist.cons_cons | apply List.Sublist.cons)))) ?_
            repeat ((with_reducible apply wpSched_pure); exact rfl; exact rfl; (intro w'; go_simp; try with_reducible rfl); (simp only [Act.put, List.setIfInBounds_toArray, List.set_cons_succ, List.set_cons_zero]))
            ((with_reducible apply wpSched_loud); exact rfl; ((with_reducible apply wpList_storeAll HO); exact rfl; exact rfl; exact rfl; (repeat (with_reducible (first | exact At.head _ | apply At.tail))); infer_instance; exact rfl; exact rfl; exact rfl; exact rfl; clear HO; intro w HO; (simp only [Act.put])))
            refine wpList_nil (thenQ_keep (HO.heldO (by with_reducible (repeat (first | exact List.nil_sublist _ | apply List.Sublist.cons_cons | apply List.Sublist.cons)))) ?_)
            ((with_reducible apply wpSched_pure); exact rfl; exact rfl; (intro w'; go_simp; try with_reducible rfl); (simp only [Act.put, List.setIfInBounds_toArray, List.set_cons_succ, List.set_cons_zero]))
            refine wpSched_end ?_
            go_wp2_with fail
            go_meet
            exact ⟨b12, bm, nm, su, cu, rfl, rfl, HO.front3⟩
        clear HO
        obtain ⟨b12, bm, nm, su, cu, rfl, rfl, HO⟩ := hcut
        go_wp2_with (first | (first | go_big_skip | ((with_reducible apply wpList_loadAll HO); exact rfl; exact rfl; (repeat (with_reducible (first | exact At.head _ | apply At.tail))); infer_instance; exact rfl; exact rfl; (simp only [Act.put, List.setIfInBounds_toArray, List.set_cons_succ, List.set_cons_zero])) | ((with_reducible apply wpList_loadOne HO); exact rfl; exact rfl; (repeat (with_reducible (first | exact At.head _ | apply At.tail))); exact rfl; infer_instance; exact rfl; (simp only [Act.put, List.setIfInBounds_toArray, List.set_cons_succ, List.set_cons_zero]))) | ((with_reducible apply wpList_storeAll HO); exact rfl; exact rfl; exact rfl; (repeat (with_reducible (first | exact At.head _ | apply At.tail))); infer_instance; exact rfl; exact rfl; exact rfl; exact rfl; clear HO; intro w HO; (simp only [Act.put])))
        go_roundw
        case rel => exact ⟨j + 1, by omega, by go_num, T', B.put 2 q rs, u0, u1, su, e0, e1, cu, some bm, HS.out _ rfl, put_ok hBok hok, hT1, ((Own.rowIsl HO.tail.tail (.head _)).sub (by exact .cons_cons _ (.cons_cons _ (.cons_cons _ (.cons_cons _ (.cons_cons _ (.cons _ (.cons_cons _ (.cons_cons _ (.cons_cons _ (List.Sublist.refl _))))))))))).perm ((List.perm_middle (l₁ := [_, _, _, _]) (l₂ := [_, _, _])).symm)⟩
        case measure => simp [intOf] <;> omega

section
open Go.ChangeShapes Go.WideShapes

theorem cellsU8 : Tryd.prog.cellsOf 5 = 1 := by kernel_rfl
set_option maxRecDepth 100000 in
theorem turns_of {H : Type} {enc : TypeId × Value → H} {W : World} {base : Nat} {spare : Nat → Bool} {held : Bool} {v : Value} {d : DataW H} {p : List MemPlace}
    (h : DataW.Trod enc Tryd.prog W base spare held 23 v d p) (hv : v.cells.toList = [v]) : ∃ ns : List Nat, IsL W 1 v (ns.map turnC) ∧ ∀ n ∈ ns, n ≤ 255 := by
  obtain ⟨fuel, hf⟩ := h
  obtain ⟨u, ns, e, hI, hw⟩ := slice_of turnC (fun n => n ≤ 255) Tryd.underlying23 cellsU8 (by decide) (fun _ => rfl) (fun fuel' cs x hx hl => by
    obtain ⟨n, e, _, hwf⟩ := DataW.trod_int Tryd.underlying5 hx
    simp [Lit.wf, IntKind.min, IntKind.max, IntKind.bits, IntKind.signed] at hwf
    refine ⟨n.toNat, ?_, by omega⟩
    rw [turnC, Int.toNat_of_nonneg hwf.1]
    match cs, hl with
    | [c], _ => simpa using e) hf
  rw [hv] at e
  obtain rfl : v = u := by simpa using e
  exact ⟨ns, hI, hw⟩
end
end Go.Proofs.YtlfphfklcifgpaaDoor

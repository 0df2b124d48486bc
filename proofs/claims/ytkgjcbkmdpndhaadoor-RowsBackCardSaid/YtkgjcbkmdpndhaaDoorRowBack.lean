/-
  The law RowsBack returns true, by walking its text; conditions: the rows lie in memory, texts no longer than memory bears, the table of parties as laid.
-/
import Derived.Test.YtkgjcbkmdpndhaaDoorRowGetLaw
import Derived.Test.YtkgjcbkmdpndhaaDoorRowSame2
import Derived.Test.YtkgjcbkmdpndhaaDoorRowStated
import Derived.Test.YtkgjcbkmdpndhaaDoorRowPut
namespace Go.Proofs.YtkgjcbkmdpndhaaDoor
open Go.RowKit Go.Own

theorem tmod_in {c n : Int} (h0 : 0 ≤ c) (hn : 0 < n) : 0 ≤ c.tmod n ∧ c.tmod n < n := by
  rw [Int.tmod_eq_emod_of_nonneg h0]
  exact ⟨Int.emod_nonneg _ (by omega), Int.emod_lt_of_pos _ hn⟩
theorem getP_cut {p q : Int} {rs : List RowS} (h : okStmt p q rs = true) {k : Nat} (hk : k < (putStmt p q rs).length) : getP ((putStmt p q rs).take k) = none := by
  cases hg : getP ((putStmt p q rs).take k) with
  | none => rfl
  | some x =>
    obtain ⟨p', q', rs'⟩ := x
    obtain ⟨h1, h2⟩ := getP_iff.1 hg
    have e1 := rdAll_put h []
    have e2 := rdAll_put h1 ((putStmt p q rs).drop k)
    rw [h2, List.take_append_drop] at e2
    rw [List.append_nil, e2] at e1
    simp only [Prod.mk.injEq] at e1
    have h3 : ((putStmt p q rs).drop k).length = 0 := by rw [e1.2.2.2.1]; rfl
    rw [List.length_drop] at h3
    omega
theorem getP_behind {p q : Int} {rs : List RowS} (h : okStmt p q rs = true) {x : List UInt8} (hx : x ≠ []) : getP (putStmt p q rs ++ x) = none := by
  rw [getP_rd, rdAll_put h x]
  unfold getEnd
  rw [if_neg]
  exact fun hh => hx hh.2.1

set_option maxHeartbeats 4000000 in
set_option maxRecDepth 100000 in
theorem rowsBack_any {W : World} {v : Value} {rs : List RowS} (p q : Int) (bh : List UInt8) (cut : Int) (h : IsRows W v rs) (hbl : bh.length ≤ maxLen) (hcut : 0 ≤ cut) (hcut2 : cut ≤ 65535) (hL : Laid W) :
    Calls Tryd.prog 10 #[.agg #[.int .i64 p, .int .i64 q, v], .string ⟨bh.toArray⟩, .int .u16 cut] W fun e w' => e = .returned (.bool true) ∧ Below W.heap.size W w' := by
  have hLW := fun w' (hb : Below W.heap.size W w') => hL.below hb hL.1
  have O := fun w (hb : Below W.heap.size W w) => stated12_any w (hLW w hb)
  have hR := fun w (hb : Below W.heap.size W w) => h.below hb h.lt
  obtain ⟨sp, sc, rfl, hmx⟩ := h.slice
  have HO := Own.start W
  have P := fun w (hb : Below W.heap.size W w) => putStmt_any p q (hR w hb) (hLW w hb)
  have V := fun w (hb : Below W.heap.size W w) => rowsValid_any p q (hR w hb) (hLW w hb)
  by_cases g1 : 100 < rs.length
  · have g1' : (100 : Int) < (rs.length : Int) := by omega
    clear h hR P V
    go_enter Tryd.func10, Tryd.ntmps10
    go_wp2_with (first | ((with_reducible apply wpList_boxAgg _ HO rfl); exact rfl; exact rfl; exact rfl; clear HO; intro b0 w HO; (simp only [Act.put, List.setIfInBounds_toArray, List.set_cons_succ, List.set_cons_zero])) | (first | go_big_skip | ((with_reducible apply wpList_loadAll HO); exact rfl; exact rfl; (repeat (with_reducible (first | exact At.head _ | apply At.tail))); infer_instance; exact rfl; exact rfl; (simp only [Act.put, List.setIfInBounds_toArray, List.set_cons_succ, List.set_cons_zero])) | ((with_reducible apply wpList_loadOne HO); exact rfl; exact rfl; (repeat (with_reducible (first | exact At.head _ | apply At.tail))); exact rfl; infer_instance; exact rfl; (simp only [Act.put, List.setIfInBounds_toArray, List.set_cons_succ, List.set_cons_zero]))) | (go_at_call 19; go_must ((with_reducible refine (O _ HO.grown).mono ?_); rintro e w ⟨rfl, hb⟩; replace HO := HO.call hb; clear hb)))
    go_ret
    exact ⟨rfl, HO.grown⟩
  have g1' : decide ((100 : Int) < (rs.length : Int)) = false := by simp; omega
  by_cases g2 : 50 < bh.length
  · have g2' : (50 : Int) < (bh.length : Int) := by omega
    clear h hR P V
    go_enter Tryd.func10, Tryd.ntmps10
    go_wp2_with (first | ((with_reducible apply wpList_boxAgg _ HO rfl); exact rfl; exact rfl; exact rfl; clear HO; intro b0 w HO; (simp only [Act.put, List.setIfInBounds_toArray, List.set_cons_succ, List.set_cons_zero])) | (first | go_big_skip | ((with_reducible apply wpList_loadAll HO); exact rfl; exact rfl; (repeat (with_reducible (first | exact At.head _ | apply At.tail))); infer_instance; exact rfl; exact rfl; (simp only [Act.put, List.setIfInBounds_toArray, List.set_cons_succ, List.set_cons_zero])) | ((with_reducible apply wpList_loadOne HO); exact rfl; exact rfl; (repeat (with_reducible (first | exact At.head _ | apply At.tail))); exact rfl; infer_instance; exact rfl; (simp only [Act.put, List.setIfInBounds_toArray, List.set_cons_succ, List.set_cons_zero]))) | (go_at_call 19; go_must ((with_reducible refine (O _ HO.grown).mono ?_); rintro e w ⟨rfl, hb⟩; replace HO := HO.call hb; clear hb)))
    go_ret
    exact ⟨rfl, HO.grown⟩
  have g2' : decide ((50 : Int) < (bh.length : Int)) = false := by simp; omega
  cases hok : okStmt p q rs
  · rw [hok] at V
    have e0 : putStmt p q rs = [] := by rw [putStmt, if_neg (by rw [hok]; decide)]
    rw [e0] at P
    clear h hR hok e0
    go_enter Tryd.func10, Tryd.ntmps10
    go_wp2_with (first | ((with_reducible apply wpList_boxAgg _ HO rfl); exact rfl; exact rfl; exact rfl; clear HO; intro b0 w HO; (simp only [Act.put, List.setIfInBounds_toArray, List.set_cons_succ, List.set_cons_zero])) | (first | go_big_skip | ((with_reducible apply wpList_loadAll HO); exact rfl; exact rfl; (repeat (with_reducible (first | exact At.head _ | apply At.tail))); infer_instance; exact rfl; exact rfl; (simp only [Act.put, List.setIfInBounds_toArray, List.set_cons_succ, List.set_cons_zero])) | ((with_reducible apply wpList_loadOne HO); exact rfl; exact rfl; (repeat (with_reducible (first | exact At.head _ | apply At.tail))); exact rfl; infer_instance; exact rfl; (simp only [Act.put, List.setIfInBounds_toArray, List.set_cons_succ, List.set_cons_zero]))) | (go_at_call 19; go_must ((with_reducible refine (O _ HO.grown).mono ?_); rintro e w ⟨rfl, hb⟩; replace HO := HO.call hb; clear hb)) | (go_at_call 24; go_must ((with_reducible refine (P _ HO.grown).mono ?_); rintro e w ⟨rfl, hb⟩; replace HO := HO.call hb; clear hb)) | (go_at_call 22; go_must ((with_reducible refine (V _ HO.grown).mono ?_); rintro e w ⟨rfl, hb⟩; replace HO := HO.call hb; clear hb)))
    go_ret
    exact ⟨rfl, HO.grown⟩
  · rw [hok] at V
    obtain ⟨q1, q2, p1, p2, _, _⟩ := okStmt_ok hok
    have hlen : 0 < (putStmt p q rs).length ∧ (putStmt p q rs).length ≤ 6000 := by
      have h1 := bytesTo_len rs rs.length
      have h2 := headB_len p q rs.length
      have h3 : putStmt p q rs = headB p q rs.length ++ bytesTo rs rs.length := by rw [putStmt, if_pos hok]
      have h4 : 0 < (headB p q rs.length).length := by
        have : varF 10 p.toNat ≠ [] := by unfold varF; split <;> simp
        have := List.length_pos_iff.2 this
        unfold headB
        simp only [List.length_append]
        omega
      rw [h3, List.length_append]
      omega
    have hk := tmod_in (n := (putStmt p q rs).length) hcut (by omega)
    generalize hk0 : cut.tmod ((putStmt p q rs).length : Int) = k at hk
    obtain ⟨hk1, hk2⟩ := hk
    have hk3 : k.toNat < (putStmt p q rs).length := by omega
    have f1 := getP_iff.2 ⟨hok, rfl⟩
    have f2 := getP_cut hok hk3
    have f3 := fun hb => getP_behind (x := bh) hok hb
    have SE := fun (w : World) (u u' : Value) (hu : IsRows w u rs) (hu' : IsRows w u' rs) => rowsSame_any p q p q hu hu'
    rw [sameStmt_iff.2 ⟨rfl, rfl, rfl⟩] at SE
    have S0 := fun w => @rowsSame_any w (.slice none 0 0) (.slice none 0 0) [] [] 0 0 0 0 (.none none 0 (fun _ => rfl)) (.none none 0 (fun _ => rfl))
    rw [sameStmt_iff.2 ⟨rfl, rfl, rfl⟩] at S0
    have SN := fun (w : World) (u : Value) (hu : IsRows w u rs) => @rowsSame_any w (.slice none 0 0) u [] rs 0 0 p q (.none none 0 (fun _ => rfl)) hu
    rw [sameStmt_no (by omega)] at SN
    generalize putStmt p q rs = s at *
    have hlen1 : ((s.length : Int) == 0) = false := by rw [beq_eq_false_iff_ne]; omega
    have hlen2 : (s.length : Int) ≠ 0 := by omega
    have hml : maxLen = 9223372036854775807 := rfl
    have hs1 : s.length + bh.length ≤ 9223372036854775807 := by omega
    have G1 := fun {w : World} {L : List Ent} (hh : Own W w L) => rowsGet_any s (by omega) hh hL
    have G2 := fun {w : World} {L : List Ent} (hh : Own W w L) => rowsGet_any (s.take k.toNat) (by simp; omega) hh hL
    have G3 := fun {w : World} {L : List Ent} (hh : Own W w L) => rowsGet_any (s ++ bh) (by simp; omega) hh hL
    rw [f1] at G1
    rw [f2] at G2
    unfold StmtPost at G1 G2 G3
    simp only at G1 G2
    have hkn : k.toNat ≤ s.length := by omega
    by_cases hbh : bh = []
    · subst hbh
      rw [List.append_nil, f1] at G3
      simp only at G3
      clear f1 f2 f3 hok h hL
      go_enter Tryd.func10, Tryd.ntmps10
      go_wp2_with (first | ((with_reducible apply wpList_boxAgg _ HO rfl); exact rfl; exact rfl; exact rfl; clear HO; intro b0 w HO; (simp only [Act.put, List.setIfInBounds_toArray, List.set_cons_succ, List.set_cons_zero])) | (first | go_big_skip | ((with_reducible apply wpList_loadAll HO); exact rfl; exact rfl; (repeat (with_reducible (first | exact At.head _ | apply At.tail))); infer_instance; exact rfl; exact rfl; (simp only [Act.put, List.setIfInBounds_toArray, List.set_cons_succ, List.set_cons_zero])) | ((with_reducible apply wpList_loadOne HO); exact rfl; exact rfl; (repeat (with_reducible (first | exact At.head _ | apply At.tail))); exact rfl; infer_instance; exact rfl; (simp only [Act.put, List.setIfInBounds_toArray, List.set_cons_succ, List.set_cons_zero]))) | ((with_reducible apply wpList_storeAll HO); exact rfl; exact rfl; exact rfl; (repeat (with_reducible (first | exact At.head _ | apply At.tail))); infer_instance; exact rfl; exact rfl; exact rfl; exact rfl; clear HO; intro w HO; (simp only [Act.put])) | ((with_reducible apply wpList_allocAgg _ HO rfl); exact rfl; infer_instance; exact rfl; clear HO; intro b3 w HO; (simp only [Act.put, List.setIfInBounds_toArray, List.set_cons_succ, List.set_cons_zero])) | (go_at_call 24; go_must ((with_reducible refine (P _ HO.grown).mono ?_); rintro e w ⟨rfl, hb⟩; replace HO := HO.call hb; clear hb)) | (go_at_call 22; go_must ((with_reducible refine (V _ HO.grown).mono ?_); rintro e w ⟨rfl, hb⟩; replace HO := HO.call hb; clear hb)) | (go_at_call 33; first | ((with_reducible refine (G1 HO).mono ?_); (rintro e w ⟨x1, rfl, HO1⟩; clear HO; have HO := HO1; clear HO1; obtain ⟨pa, ca, rfl⟩ := (HO.rowForm (.head _)).1; rw [List.length_map] at HO ⊢)) | ((with_reducible refine (G2 HO).mono ?_); (rintro e w ⟨rfl, HO1⟩; clear HO; have HO := HO1; clear HO1))) | (go_at_call 35; first | ((with_reducible refine (SE _ _ _ (ownRows HO (.tail _ _ _ (.tail _ _ _ (.tail _ _ _ (.tail _ _ _ (.head _)))))) (hR _ HO.grown)).mono ?_); (rintro e w ⟨rfl, hb⟩; replace HO := HO.call hb; clear hb)) | ((with_reducible refine (SE _ _ _ (ownRows HO (.tail _ _ _ (.head _))) (ownRows HO (.tail _ _ _ (.tail _ _ _ (.tail _ _ _ (.tail _ _ _ (.head _))))))).mono ?_); (rintro e w ⟨rfl, hb⟩; replace HO := HO.call hb; clear hb)) | ((with_reducible refine (S0 _).mono ?_); (rintro e w ⟨rfl, hb⟩; replace HO := HO.call hb; clear hb))) | (go_at_call 19; go_must ((with_reducible refine (O _ HO.grown).mono ?_); rintro e w ⟨rfl, hb⟩; replace HO := HO.call hb; clear hb)))
      go_ret
      exact ⟨rfl, HO.grown⟩
    · have hbe : bh.isEmpty = false := by cases bh <;> simp_all
      have hbq : (bh == []) = false := by cases bh <;> simp_all
      rw [f3 hbh] at G3
      simp only at G3
      clear f1 f2 f3 hok h hL
      go_enter Tryd.func10, Tryd.ntmps10
      go_wp2_with (first | ((with_reducible apply wpList_boxAgg _ HO rfl); exact rfl; exact rfl; exact rfl; clear HO; intro b0 w HO; (simp only [Act.put, List.setIfInBounds_toArray, List.set_cons_succ, List.set_cons_zero])) | (first | go_big_skip | ((with_reducible apply wpList_loadAll HO); exact rfl; exact rfl; (repeat (with_reducible (first | exact At.head _ | apply At.tail))); infer_instance; exact rfl; exact rfl; (simp only [Act.put, List.setIfInBounds_toArray, List.set_cons_succ, List.set_cons_zero])) | ((with_reducible apply wpList_loadOne HO); exact rfl; exact rfl; (repeat (with_reducible (first | exact At.head _ | apply At.tail))); exact rfl; infer_instance; exact rfl; (simp only [Act.put, List.setIfInBounds_toArray, List.set_cons_succ, List.set_cons_zero]))) | ((with_reducible apply wpList_storeAll HO); exact rfl; exact rfl; exact rfl; (repeat (with_reducible (first | exact At.head _ | apply At.tail))); infer_instance; exact rfl; exact rfl; exact rfl; exact rfl; clear HO; intro w HO; (simp only [Act.put])) | ((with_reducible apply wpList_allocAgg _ HO rfl); exact rfl; infer_instance; exact rfl; clear HO; intro b3 w HO; (simp only [Act.put, List.setIfInBounds_toArray, List.set_cons_succ, List.set_cons_zero])) | (go_at_call 24; go_must ((with_reducible refine (P _ HO.grown).mono ?_); rintro e w ⟨rfl, hb⟩; replace HO := HO.call hb; clear hb)) | (go_at_call 22; go_must ((with_reducible refine (V _ HO.grown).mono ?_); rintro e w ⟨rfl, hb⟩; replace HO := HO.call hb; clear hb)) | (go_at_call 33; first | ((with_reducible refine (G1 HO).mono ?_); (rintro e w ⟨x1, rfl, HO1⟩; clear HO; have HO := HO1; clear HO1; obtain ⟨pa, ca, rfl⟩ := (HO.rowForm (.head _)).1; rw [List.length_map] at HO ⊢)) | ((with_reducible refine (G2 HO).mono ?_); (rintro e w ⟨rfl, HO1⟩; clear HO; have HO := HO1; clear HO1)) | ((with_reducible refine (G3 HO).mono ?_); (rintro e w ⟨rfl, HO1⟩; clear HO; have HO := HO1; clear HO1))) | (go_at_call 35; first | ((with_reducible refine (SE _ _ _ (ownRows HO (.tail _ _ _ (.tail _ _ _ (.tail _ _ _ (.head _))))) (hR _ HO.grown)).mono ?_); (rintro e w ⟨rfl, hb⟩; replace HO := HO.call hb; clear hb)) | ((with_reducible refine (SN _ _ (ownRows HO (.tail _ _ _ (.tail _ _ _ (.tail _ _ _ (.head _)))))).mono ?_); (rintro e w ⟨rfl, hb⟩; replace HO := HO.call hb; clear hb)) | ((with_reducible refine (S0 _).mono ?_); (rintro e w ⟨rfl, hb⟩; replace HO := HO.call hb; clear hb))) | (go_at_call 19; go_must ((with_reducible refine (O _ HO.grown).mono ?_); rintro e w ⟨rfl, hb⟩; replace HO := HO.call hb; clear hb)))
      go_ret
      exact ⟨rfl, HO.grown⟩
end Go.Proofs.YtkgjcbkmdpndhaaDoor

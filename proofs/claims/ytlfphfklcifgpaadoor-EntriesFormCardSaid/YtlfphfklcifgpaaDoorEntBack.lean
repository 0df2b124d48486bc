/-
  The laws EntriesBack and EntriesForm return true, by walking their texts; conditions: the rows lie in memory, texts no longer than memory bears, the table of parties as laid.
-/
import Derived.Test.YtlfphfklcifgpaaDoorEntW
namespace Go.Proofs.YtlfphfklcifgpaaDoor
open Go.RowKit Go.Own

theorem x_len {x : EntS} (h : checkE x = 0) (hp : plainE x = x) : x.ref.length ≤ maxLen ∧ x.sku.length ≤ maxLen := by
  obtain ⟨f1, f2, f3, f4⟩ := plain_fields hp
  have hm : maxLen = 9223372036854775807 := rfl
  rcases checkE_kinds h with ⟨hk, h1⟩ | ⟨hk, _⟩ | ⟨hk, _⟩ | ⟨hk, _⟩
  · have := ordCheck_ok h1
    omega
  · rw [f2 hk]; simp
  · rw [f3 hk]; simp
  · rw [f4 hk]; simp

set_option maxHeartbeats 8000000 in
set_option maxRecDepth 100000 in
theorem entBack_any {W : World} {va : Value} (a : EntS) (cut : Int) (ha : IsRows W va a.rs) (a1 : a.ref.length ≤ maxLen) (a2 : a.sku.length ≤ maxLen) (hcut : 0 ≤ cut) (hcut2 : cut ≤ 65535) (hL : Laid W) :
    Calls Tryd.prog 9 #[.agg #[.int .i64 (a).k, .int .i64 (a).id, .string ⟨(a).ref.toArray⟩, .string ⟨(a).sku.toArray⟩, .int .i64 (a).qty, .int .i64 (a).amt, .int .i64 (a).o, .int .i64 (a).d, .int .i64 (a).c, .int .i64 (a).p, .int .i64 (a).q, va], .int .u16 cut] W fun e w' => e = .returned (.bool true) ∧ Below W.heap.size W w' := by
  have hLW := fun w' (h : Below W.heap.size W w') => hL.below h hL.1
  have O := fun w (h : Below W.heap.size W w) => entered_any w (hLW w h)
  have GA := fun w (h : Below W.heap.size W w) => great20_any a (ha.below h ha.lt) a1 a2
  have C1 := fun w (h : Below W.heap.size W w) => entCheck_any a (ha.below h ha.lt) (hLW w h) a1 a2
  have P1 := fun w (h : Below W.heap.size W w) => entPut_any a (ha.below h ha.lt) (hLW w h) a1 a2
  have CB := fun {w : World} {v : Value} (hr : IsRows w v (plainE a).rs) (h : Below W.heap.size W w) => entCheck_any (plainE a) hr (hLW w h) (Nat.le_trans (plainE_len a).1 a1) (Nat.le_trans (plainE_len a).2 a2)
  have PB := fun {w : World} {v : Value} (hr : IsRows w v (plainE a).rs) (h : Below W.heap.size W w) => entPut_any (plainE a) hr (hLW w h) (Nat.le_trans (plainE_len a).1 a1) (Nat.le_trans (plainE_len a).2 a2)
  have SE := fun {w : World} {v : Value} (hr : IsRows w v (plainE a).rs) (h : Below W.heap.size W w) => entSame_any a (plainE a) (ha.below h ha.lt) hr
  rw [plainE_check, plainE_put] at PB
  rw [plainE_check] at CB
  rw [sameE_plain] at SE
  have HO := Own.start W
  cases ga : greatE a
  rotate_left
  · rw [ga] at GA
    obtain ⟨sa, ca, rfl, -⟩ := ha.slice
    generalize a.rs.length = na at *
    clear C1 P1 CB PB SE ga ha a1 a2
    go_enter Tryd.func9, Tryd.ntmps9
    go_wp2_with (first | (first | go_big_skip | ((with_reducible apply wpList_loadAll HO); exact rfl; exact rfl; (repeat (with_reducible (first | exact At.head _ | apply At.tail))); infer_instance; exact rfl; exact rfl; (simp only [Act.put, List.setIfInBounds_toArray, List.set_cons_succ, List.set_cons_zero])) | ((with_reducible apply wpList_loadOne HO); exact rfl; exact rfl; (repeat (with_reducible (first | exact At.head _ | apply At.tail))); exact rfl; infer_instance; exact rfl; (simp only [Act.put, List.setIfInBounds_toArray, List.set_cons_succ, List.set_cons_zero])) | ((with_reducible apply wpList_storeAll HO); exact rfl; exact rfl; exact rfl; (repeat (with_reducible (first | exact At.head _ | apply At.tail))); infer_instance; exact rfl; exact rfl; exact rfl; exact rfl; clear HO; intro w HO; (simp only [Act.put])) | (first | ((with_reducible apply wpList_boxAgg _ HO rfl); exact rfl; exact rfl; exact rfl; clear HO; intro b0 w HO; (simp only [Act.put, List.setIfInBounds_toArray, List.set_cons_succ, List.set_cons_zero])) | ((with_reducible apply wpList_allocAgg _ HO rfl); exact rfl; infer_instance; exact rfl; clear HO; intro b0 w HO; (simp only [Act.put, List.setIfInBounds_toArray, List.set_cons_succ, List.set_cons_zero])))) | (go_at_call 33; go_must ((with_reducible refine (GA _ HO.grown).mono ?_); rintro e w ⟨rfl, hb⟩; replace HO := HO.call hb; clear hb)) | (go_at_call 34; go_must ((with_reducible refine (O _ HO.grown).mono ?_); rintro e w ⟨rfl, hb⟩; replace HO := HO.call hb; clear hb)))
    go_ret
    exact ⟨rfl, HO.grown⟩
  rw [ga] at GA
  by_cases hc : checkE a = 0
  rotate_left
  · have e0 : putE a = [] := by rw [putE, if_neg hc]
    rw [e0] at P1
    obtain ⟨sa, ca, rfl, -⟩ := ha.slice
    generalize a.rs.length = na at *
    generalize checkE a = e at *
    have e1 : (e == 0) = false := by simpa using hc
    have e2 : (e != 0) = true := by simpa using hc
    clear CB PB SE ga ha a1 a2 hc e0
    go_enter Tryd.func9, Tryd.ntmps9
    go_wp2_with (first | (first | go_big_skip | ((with_reducible apply wpList_loadAll HO); exact rfl; exact rfl; (repeat (with_reducible (first | exact At.head _ | apply At.tail))); infer_instance; exact rfl; exact rfl; (simp only [Act.put, List.setIfInBounds_toArray, List.set_cons_succ, List.set_cons_zero])) | ((with_reducible apply wpList_loadOne HO); exact rfl; exact rfl; (repeat (with_reducible (first | exact At.head _ | apply At.tail))); exact rfl; infer_instance; exact rfl; (simp only [Act.put, List.setIfInBounds_toArray, List.set_cons_succ, List.set_cons_zero])) | ((with_reducible apply wpList_storeAll HO); exact rfl; exact rfl; exact rfl; (repeat (with_reducible (first | exact At.head _ | apply At.tail))); infer_instance; exact rfl; exact rfl; exact rfl; exact rfl; clear HO; intro w HO; (simp only [Act.put])) | (first | ((with_reducible apply wpList_boxAgg _ HO rfl); exact rfl; exact rfl; exact rfl; clear HO; intro b0 w HO; (simp only [Act.put, List.setIfInBounds_toArray, List.set_cons_succ, List.set_cons_zero])) | ((with_reducible apply wpList_allocAgg _ HO rfl); exact rfl; infer_instance; exact rfl; clear HO; intro b0 w HO; (simp only [Act.put, List.setIfInBounds_toArray, List.set_cons_succ, List.set_cons_zero])))) | (go_at_call 33; go_must ((with_reducible refine (GA _ HO.grown).mono ?_); rintro e w ⟨rfl, hb⟩; replace HO := HO.call hb; clear hb)) | (go_at_call 35; go_must ((with_reducible refine (P1 _ HO.grown).mono ?_); rintro e w ⟨rfl, hb⟩; replace HO := HO.call hb; clear hb)) | (go_at_call 39; go_must ((with_reducible refine (C1 _ HO.grown).mono ?_); rintro e w ⟨rfl, hb⟩; replace HO := HO.call hb; clear hb)) | (go_at_call 34; go_must ((with_reducible refine (O _ HO.grown).mono ?_); rintro e w ⟨rfl, hb⟩; replace HO := HO.call hb; clear hb)))
    go_ret
    exact ⟨rfl, HO.grown⟩
  · have hlen : 0 < (putE a).length ∧ (putE a).length ≤ 20200 := by
      have h1 := bodyE_len hc
      have h2 := varF_len 10 a.k.toNat
      have h3 : varF 10 a.k.toNat ≠ [] := by unfold varF; split <;> simp
      have h4 := List.length_pos_iff.2 h3
      rw [putE_ok hc, List.length_append]
      omega
    generalize hq : putE a = s at *
    have hk1 : 0 ≤ cut.tmod (s.length : Int) ∧ cut.tmod (s.length : Int) < s.length := by
      rw [Int.tmod_eq_emod_of_nonneg hcut]
      exact ⟨Int.emod_nonneg _ (by omega), Int.emod_lt_of_pos _ (by omega)⟩
    generalize hk0 : cut.tmod (s.length : Int) = k at hk1
    obtain ⟨hk1, hk2⟩ := hk1
    have hk3 : k.toNat < s.length := by omega
    have f1 : getEP s = some (plainE a) := by rw [← hq, ← plainE_put]; exact getEP_put (by rw [plainE_check]; exact hc) (plainE_twice a)
    have f2 : getEP (s.take k.toNat) = none := by have := getEP_cut hc (k := k.toNat) (by rw [hq]; exact hk3); rwa [hq] at this
    have f3 : getEP (s ++ [0]) = none := by have := getEP_behind hc (z := [0]) (by simp); rwa [hq] at this
    rw [hc] at P1 PB CB
    have hlen1 : ((s.length : Int) == 0) = false := by rw [beq_eq_false_iff_ne]; omega
    have hlen2 : (s.length : Int) ≠ 0 := by omega
    have hlen3 : ¬ s.length = 0 := by omega
    have hse : s ≠ [] := by intro h; rw [h] at hlen; simp at hlen
    have hml : maxLen = 9223372036854775807 := rfl
    have hs1 : s.length + 1 ≤ 9223372036854775807 := by omega
    have hs2 : s.length + [(0 : UInt8)].length ≤ 9223372036854775807 := by simp; omega
    have G1 := fun {w : World} {L : List Ent} (hh : Own W w L) => entGet_any s (by omega) hh hL
    have G2 := fun {w : World} {L : List Ent} (hh : Own W w L) => entGet_any (s.take k.toNat) (by simp; omega) hh hL
    have G3 := fun {w : World} {L : List Ent} (hh : Own W w L) => entGet_any (s ++ [0]) (by simp; omega) hh hL
    rw [f1] at G1
    rw [f2] at G2
    rw [f3] at G3
    unfold EntPost at G1 G2 G3
    generalize plainE a = y at *
    simp only [zeroE] at G1 G2 G3
    have hkn : k.toNat ≤ s.length := by omega
    obtain ⟨sa, ca, rfl, -⟩ := ha.slice
    generalize a.rs.length = na at *
    clear f1 f2 f3 hc hL hLW C1 hq ga ha a1 a2
    go_enter Tryd.func9, Tryd.ntmps9
    go_wp2_with (first | ((with_reducible apply wpList_boxAgg _ HO rfl); exact rfl; exact rfl; exact rfl; clear HO; intro b0 w HO; (simp only [Act.put, List.setIfInBounds_toArray, List.set_cons_succ, List.set_cons_zero])) | (first | go_big_skip | ((with_reducible apply wpList_loadAll HO); exact rfl; exact rfl; (repeat (with_reducible (first | exact At.head _ | apply At.tail))); infer_instance; exact rfl; exact rfl; (simp only [Act.put, List.setIfInBounds_toArray, List.set_cons_succ, List.set_cons_zero])) | ((with_reducible apply wpList_loadOne HO); exact rfl; exact rfl; (repeat (with_reducible (first | exact At.head _ | apply At.tail))); exact rfl; infer_instance; exact rfl; (simp only [Act.put, List.setIfInBounds_toArray, List.set_cons_succ, List.set_cons_zero]))) | ((with_reducible apply wpList_storeAll HO); exact rfl; exact rfl; exact rfl; (repeat (with_reducible (first | exact At.head _ | apply At.tail))); infer_instance; exact rfl; exact rfl; exact rfl; exact rfl; clear HO; intro w HO; (simp only [Act.put])) | (first | ((with_reducible apply wpList_boxAgg _ HO rfl); exact rfl; exact rfl; exact rfl; clear HO; intro b3 w HO; (simp only [Act.put, List.setIfInBounds_toArray, List.set_cons_succ, List.set_cons_zero])) | ((with_reducible apply wpList_allocAgg _ HO rfl); exact rfl; infer_instance; exact rfl; clear HO; intro b3 w HO; (simp only [Act.put, List.setIfInBounds_toArray, List.set_cons_succ, List.set_cons_zero]))) | (go_at_call 33; go_must ((with_reducible refine (GA _ HO.grown).mono ?_); rintro e w ⟨rfl, hb⟩; replace HO := HO.call hb; clear hb)) | (go_at_call 35; first | ((with_reducible refine (P1 _ HO.grown).mono ?_); (rintro e w ⟨rfl, hb⟩; replace HO := HO.call hb; clear hb)) | ((with_reducible refine (PB (ownRows HO (.tail _ _ _ (.head _))) HO.grown).mono ?_); (rintro e w ⟨rfl, hb⟩; replace HO := HO.call hb; clear hb))) | (go_at_call 39; go_must ((with_reducible refine (CB (ownRows HO (.tail _ _ _ (.head _))) HO.grown).mono ?_); rintro e w ⟨rfl, hb⟩; replace HO := HO.call hb; clear hb)) | (go_at_call 42; go_must ((with_reducible refine (SE (ownRows HO (.tail _ _ _ (.head _))) HO.grown).mono ?_); rintro e w ⟨rfl, hb⟩; replace HO := HO.call hb; clear hb)) | (go_at_call 37; first | ((with_reducible refine (G1 HO).mono ?_); (rintro e w ⟨x1, rfl, HO1⟩; clear HO; have HO := HO1; clear HO1; obtain ⟨pa, ca1, rfl⟩ := (HO.rowForm (.head _)).1; rw [List.length_map] at HO ⊢)) | ((with_reducible refine (G2 HO).mono ?_); (rintro e w ⟨rfl, HO1⟩; clear HO; have HO := HO1; clear HO1)) | ((with_reducible refine (G3 HO).mono ?_); (rintro e w ⟨rfl, HO1⟩; clear HO; have HO := HO1; clear HO1))) | (go_at_call 34; go_must ((with_reducible refine (O _ HO.grown).mono ?_); rintro e w ⟨rfl, hb⟩; replace HO := HO.call hb; clear hb)))
    go_ret
    exact ⟨rfl, HO.grown⟩

set_option maxHeartbeats 8000000 in
set_option maxRecDepth 100000 in
theorem entForm_any {W : World} (s : List UInt8) (hs : s.length ≤ maxLen) (hL : Laid W) :
    Calls Tryd.prog 10 #[.string ⟨s.toArray⟩] W fun e w' => e = .returned (.bool true) ∧ Below W.heap.size W w' := by
  have hLW := fun w' (h : Below W.heap.size W w') => hL.below h hL.1
  have O := fun w (h : Below W.heap.size W w) => entered_any w (hLW w h)
  have HO := Own.start W
  unfold maxLen at hs
  by_cases gs : 1000 < s.length
  · have gs' : (1000 : Int) < (s.length : Int) := by omega
    go_enter Tryd.func10, Tryd.ntmps10
    go_wp2_with (first | (first | go_big_skip | ((with_reducible apply wpList_loadAll HO); exact rfl; exact rfl; (repeat (with_reducible (first | exact At.head _ | apply At.tail))); infer_instance; exact rfl; exact rfl; (simp only [Act.put, List.setIfInBounds_toArray, List.set_cons_succ, List.set_cons_zero])) | ((with_reducible apply wpList_loadOne HO); exact rfl; exact rfl; (repeat (with_reducible (first | exact At.head _ | apply At.tail))); exact rfl; infer_instance; exact rfl; (simp only [Act.put, List.setIfInBounds_toArray, List.set_cons_succ, List.set_cons_zero]))) | (go_at_call 34; go_must ((with_reducible refine (O _ HO.grown).mono ?_); rintro e w ⟨rfl, hb⟩; replace HO := HO.call hb; clear hb)))
    go_ret
    exact ⟨rfl, HO.grown⟩
  · have gs' : decide ((1000 : Int) < (s.length : Int)) = false := by simp; omega
    have G1 := fun {w : World} {L : List Ent} (hh : Own W w L) => entGet_any s (by omega) hh hL
    cases hG : getEP s with
    | none =>
      rw [hG] at G1
      unfold EntPost at G1
      have S0 := fun w => @entSame_any w (.slice none 0 0) (.slice none 0 0) (zeroE 0) (zeroE 0) (.none none 0 (fun _ => rfl)) (.none none 0 (fun _ => rfl))
      rw [sameE_self] at S0
      simp only [zeroE] at G1 S0
      clear hG hL hLW
      go_enter Tryd.func10, Tryd.ntmps10
      go_wp2_with (first | (first | go_big_skip | ((with_reducible apply wpList_loadAll HO); exact rfl; exact rfl; (repeat (with_reducible (first | exact At.head _ | apply At.tail))); infer_instance; exact rfl; exact rfl; (simp only [Act.put, List.setIfInBounds_toArray, List.set_cons_succ, List.set_cons_zero])) | ((with_reducible apply wpList_loadOne HO); exact rfl; exact rfl; (repeat (with_reducible (first | exact At.head _ | apply At.tail))); exact rfl; infer_instance; exact rfl; (simp only [Act.put, List.setIfInBounds_toArray, List.set_cons_succ, List.set_cons_zero]))) | ((with_reducible apply wpList_storeAll HO); exact rfl; exact rfl; exact rfl; (repeat (with_reducible (first | exact At.head _ | apply At.tail))); infer_instance; exact rfl; exact rfl; exact rfl; exact rfl; clear HO; intro w HO; (simp only [Act.put])) | (first | ((with_reducible apply wpList_boxAgg _ HO rfl); exact rfl; exact rfl; exact rfl; clear HO; intro b3 w HO; (simp only [Act.put, List.setIfInBounds_toArray, List.set_cons_succ, List.set_cons_zero])) | ((with_reducible apply wpList_allocAgg _ HO rfl); exact rfl; infer_instance; exact rfl; clear HO; intro b3 w HO; (simp only [Act.put, List.setIfInBounds_toArray, List.set_cons_succ, List.set_cons_zero]))) | (go_at_call 37; go_must ((with_reducible refine (G1 HO).mono ?_); rintro e w ⟨rfl, HO1⟩; clear HO; have HO := HO1; clear HO1)) | (go_at_call 42; go_must ((with_reducible refine (S0 _).mono ?_); rintro e w ⟨rfl, hb⟩; replace HO := HO.call hb; clear hb)) | (go_at_call 34; go_must ((with_reducible refine (O _ HO.grown).mono ?_); rintro e w ⟨rfl, hb⟩; replace HO := HO.call hb; clear hb)))
      go_ret
      exact ⟨rfl, HO.grown⟩
    | some x =>
      obtain ⟨hc, hp, hpl⟩ := getEP_some hG
      have hl := x_len hc hpl
      have PB := fun {w : World} {v : Value} (hr : IsRows w v x.rs) (h : Below W.heap.size W w) => entPut_any x hr (hLW w h) hl.1 hl.2
      rw [hc, hp] at PB
      rw [hG] at G1
      unfold EntPost at G1
      simp only at G1
      clear hG hL hLW hc hp hpl hl
      go_enter Tryd.func10, Tryd.ntmps10
      go_wp2_with (first | (first | go_big_skip | ((with_reducible apply wpList_loadAll HO); exact rfl; exact rfl; (repeat (with_reducible (first | exact At.head _ | apply At.tail))); infer_instance; exact rfl; exact rfl; (simp only [Act.put, List.setIfInBounds_toArray, List.set_cons_succ, List.set_cons_zero])) | ((with_reducible apply wpList_loadOne HO); exact rfl; exact rfl; (repeat (with_reducible (first | exact At.head _ | apply At.tail))); exact rfl; infer_instance; exact rfl; (simp only [Act.put, List.setIfInBounds_toArray, List.set_cons_succ, List.set_cons_zero]))) | ((with_reducible apply wpList_storeAll HO); exact rfl; exact rfl; exact rfl; (repeat (with_reducible (first | exact At.head _ | apply At.tail))); infer_instance; exact rfl; exact rfl; exact rfl; exact rfl; clear HO; intro w HO; (simp only [Act.put])) | (first | ((with_reducible apply wpList_boxAgg _ HO rfl); exact rfl; exact rfl; exact rfl; clear HO; intro b3 w HO; (simp only [Act.put, List.setIfInBounds_toArray, List.set_cons_succ, List.set_cons_zero])) | ((with_reducible apply wpList_allocAgg _ HO rfl); exact rfl; infer_instance; exact rfl; clear HO; intro b3 w HO; (simp only [Act.put, List.setIfInBounds_toArray, List.set_cons_succ, List.set_cons_zero]))) | (go_at_call 37; go_must ((with_reducible refine (G1 HO).mono ?_); rintro e w ⟨x1, rfl, HO1⟩; clear HO; have HO := HO1; clear HO1; obtain ⟨pa, ca1, rfl⟩ := (HO.rowForm (.head _)).1; rw [List.length_map] at HO ⊢)) | (go_at_call 35; go_must ((with_reducible refine (PB (ownRows HO (.tail _ _ _ (.head _))) HO.grown).mono ?_); rintro e w ⟨rfl, hb⟩; replace HO := HO.call hb; clear hb)) | (go_at_call 34; go_must ((with_reducible refine (O _ HO.grown).mono ?_); rintro e w ⟨rfl, hb⟩; replace HO := HO.call hb; clear hb)))
      go_ret
      exact ⟨rfl, HO.grown⟩
end Go.Proofs.YtlfphfklcifgpaaDoor

/-
  A small posting, and the chapter's books, by walking the laws' text; conditions: int64 numbers.
-/
import Derived.Test.YthiokpjakiidjaaBkL
namespace Go.Proofs.Ythiokpjakiidjaa
open Go.RowKit Go.Own Go.Maps

theorem and3 (n : Int) : bits .and .i64 n 3 = n % 4 := by
  have h3 : (BitVec.ofInt 64 3).toNat = 2 ^ 2 - 1 := by decide
  have key : (BitVec.ofInt 64 n &&& BitVec.ofInt 64 3).toNat = (n % ((2 ^ 64 : Nat) : Int)).toNat % 2 ^ 2 := by
    rw [BitVec.toNat_and, BitVec.toNat_ofInt, h3, Nat.and_two_pow_sub_one_eq_mod]
  show IntKind.i64.wrap ((BitVec.ofInt 64 n &&& BitVec.ofInt 64 3).toNat : Nat) = n % 4
  rw [key, IntKind.wrap_i64]
  omega
theorem and1 (n : Int) : bits .and .i64 n 1 = n % 2 := by
  have h3 : (BitVec.ofInt 64 1).toNat = 2 ^ 1 - 1 := by decide
  have key : (BitVec.ofInt 64 n &&& BitVec.ofInt 64 1).toNat = (n % ((2 ^ 64 : Nat) : Int)).toNat % 2 ^ 1 := by
    rw [BitVec.toNat_and, BitVec.toNat_ofInt, h3, Nat.and_two_pow_sub_one_eq_mod]
  show IntKind.i64.wrap ((BitVec.ofInt 64 n &&& BitVec.ofInt 64 1).toNat : Nat) = n % 2
  rw [key, IntKind.wrap_i64]
  omega
theorem and40 (n : Int) : bits .and .i64 n 1099511627775 = n % 1099511627776 := by
  have h3 : (BitVec.ofInt 64 1099511627775).toNat = 2 ^ 40 - 1 := by decide
  have key : (BitVec.ofInt 64 n &&& BitVec.ofInt 64 1099511627775).toNat = (n % ((2 ^ 64 : Nat) : Int)).toNat % 2 ^ 40 := by
    rw [BitVec.toNat_and, BitVec.toNat_ofInt, h3, Nat.and_two_pow_sub_one_eq_mod]
  show IntKind.i64.wrap ((BitVec.ofInt 64 n &&& BitVec.ofInt 64 1099511627775).toNat : Nat) = n % 1099511627776
  rw [key, IntKind.wrap_i64]
  omega
def smallP (p : Pst) : Pst := ⟨if p.id.size = 0 then ⟨#[120]⟩ else p.id, 1 + p.o % 4, p.d % 4, (p.d % 4 + 1 + p.c % 2) % 5, p.a % 1099511627776⟩
theorem small_may (p : Pst) : mayPst (smallP p) = true := by
  rw [mayPst_iff]
  refine ⟨?_, ?_⟩
  · simp only [smallP]
    split
    · decide
    · assumption
  · simp only [smallP]
    omega
theorem small_wf {p : Pst} (h : WfP p) : WfP (smallP p) := by
  refine ⟨inI_iff.2 ?_, inI_iff.2 ?_, inI_iff.2 ?_, inI_iff.2 ?_, ?_⟩ <;> simp only [smallP]
  · omega
  · omega
  · omega
  · omega
  · split
    · decide
    · exact h.s

set_option maxHeartbeats 8000000 in
set_option maxRecDepth 100000 in
theorem small_any (p : Pst) (W : World) : Calls Try.prog 12 #[pstV p] W fun e w' => e = .returned (pstV (smallP p)) ∧ Below W.heap.size W w' := by
  have HO := Own.start W
  obtain ⟨id, o, d, c, a⟩ := p
  have e1 : wrap64 (1 + o % 4) = 1 + o % 4 := by unfold wrap64; omega
  have e2 : wrap64 (d % 4 + 1) = d % 4 + 1 := by unfold wrap64; omega
  have e3 : wrap64 (d % 4 + 1 + c % 2) = d % 4 + 1 + c % 2 := by unfold wrap64; omega
  have e4 : (d % 4 + 1 + c % 2).tmod 5 = (d % 4 + 1 + c % 2) % 5 := Int.tmod_eq_emod_of_nonneg (by omega)
  have HE := Lib.hid (show wrap64 (1 + bits .and .i64 o 3) = 1 + o % 4 by rw [and3, e1])
  have HE2 := Lib.hid (show (wrap64 (wrap64 (bits .and .i64 d 3 + 1) + bits .and .i64 c 1)).tmod 5 = (d % 4 + 1 + c % 2) % 5 by rw [and3, and1, e2, e3, e4])
  have HE3 := Lib.hid (and3 d)
  have HE4 := Lib.hid (and40 a)
  clear e1 e2 e3 e4
  by_cases h : id.size = 0
  · obtain rfl : id = ⟨#[]⟩ := size0 h
    simp only [pstV, pstC, smallP] at *
    go_enter Try.func12, Try.ntmps12
    go_wp2_with (first | ((with_reducible apply wpList_boxAgg _ HO rfl); exact rfl; exact rfl; exact rfl; clear HO; intro b3 w HO; (simp only [Act.put, List.setIfInBounds_toArray, List.set_cons_succ, List.set_cons_zero])) | ((with_reducible apply wpList_allocAgg _ HO rfl); exact rfl; infer_instance; exact rfl; clear HO; intro b4 w HO; (simp only [Act.put, List.setIfInBounds_toArray, List.set_cons_succ, List.set_cons_zero])) | (first | go_big_skip | ((with_reducible apply wpList_loadAll HO); exact rfl; exact rfl; (repeat (with_reducible (first | exact At.head _ | apply At.tail))); infer_instance; exact rfl; exact rfl; (simp only [Act.put, List.setIfInBounds_toArray, List.set_cons_succ, List.set_cons_zero])) | ((with_reducible apply wpList_loadOne HO); exact rfl; exact rfl; (repeat (with_reducible (first | exact At.head _ | apply At.tail))); exact rfl; infer_instance; exact rfl; (simp only [Act.put, List.setIfInBounds_toArray, List.set_cons_succ, List.set_cons_zero]))) | ((with_reducible apply wpList_storeOne HO); exact rfl; exact rfl; (first | (simp [Act.eval]; rfl) | exact rfl); exact rfl; (repeat (with_reducible (first | exact At.head _ | apply At.tail))); infer_instance; exact (by simp); (simp only [List.set_cons_succ, List.set_cons_zero]; rfl); exact rfl; clear HO; intro w HO; (simp only [Act.put])) | ((with_reducible apply wpList_storeAll HO); exact rfl; exact rfl; exact rfl; (repeat (with_reducible (first | exact At.head _ | apply At.tail))); infer_instance; exact rfl; exact rfl; exact rfl; exact rfl; clear HO; intro w HO; (simp only [Act.put])))
    refine bodyPost_ret (results_one HO rfl rfl (by (repeat (with_reducible (first | exact At.head _ | apply At.tail)))) inferInstance rfl) rfl ⟨?_, HO.grown⟩
    rw [HE.out, HE2.out, HE3.out, HE4.out]
  · have hne := ne0 h
    simp only [pstV, pstC, smallP] at *
    go_enter Try.func12, Try.ntmps12
    go_wp2_with (first | ((with_reducible apply wpList_boxAgg _ HO rfl); exact rfl; exact rfl; exact rfl; clear HO; intro b3 w HO; (simp only [Act.put, List.setIfInBounds_toArray, List.set_cons_succ, List.set_cons_zero])) | ((with_reducible apply wpList_allocAgg _ HO rfl); exact rfl; infer_instance; exact rfl; clear HO; intro b4 w HO; (simp only [Act.put, List.setIfInBounds_toArray, List.set_cons_succ, List.set_cons_zero])) | (first | go_big_skip | ((with_reducible apply wpList_loadAll HO); exact rfl; exact rfl; (repeat (with_reducible (first | exact At.head _ | apply At.tail))); infer_instance; exact rfl; exact rfl; (simp only [Act.put, List.setIfInBounds_toArray, List.set_cons_succ, List.set_cons_zero])) | ((with_reducible apply wpList_loadOne HO); exact rfl; exact rfl; (repeat (with_reducible (first | exact At.head _ | apply At.tail))); exact rfl; infer_instance; exact rfl; (simp only [Act.put, List.setIfInBounds_toArray, List.set_cons_succ, List.set_cons_zero]))) | ((with_reducible apply wpList_storeOne HO); exact rfl; exact rfl; (first | (simp [Act.eval]; rfl) | exact rfl); exact rfl; (repeat (with_reducible (first | exact At.head _ | apply At.tail))); infer_instance; exact (by simp); (simp only [List.set_cons_succ, List.set_cons_zero]; rfl); exact rfl; clear HO; intro w HO; (simp only [Act.put])) | ((with_reducible apply wpList_storeAll HO); exact rfl; exact rfl; exact rfl; (repeat (with_reducible (first | exact At.head _ | apply At.tail))); infer_instance; exact rfl; exact rfl; exact rfl; exact rfl; clear HO; intro w HO; (simp only [Act.put])))
    refine bodyPost_ret (results_one HO rfl rfl (by (repeat (with_reducible (first | exact At.head _ | apply At.tail)))) inferInstance rfl) rfl ⟨?_, HO.grown⟩
    rw [HE.out, HE2.out, HE3.out, HE4.out]

/-- Books among three other pieces: a posting posted. -/
theorem bkPost4 (id : ByteArray) (o d c a k : Int) (l l' : List Pst) (hp : WfP ⟨id, o, d, c, a⟩) (hB : Bk l) (hl : l.length ≤ 100000) (e1 : postE l ⟨id, o, d, c, a⟩ = k) (e2 : postL l ⟨id, o, d, c, a⟩ = l') {W w : World} {b pm bm : Nat} {v : Value} {E1 E2 E3 : Ent} (HO : Own W w [E1, E2, E3, bkE b v pm bm l]) :
    Calls Try.prog 11 #[.pointer (some ⟨b, 0, none⟩), .agg #[.string id, .int .i64 o, .int .i64 d, .int .i64 c, .int .i64 a]] w fun e w' => e = .returned (.int .i64 k) ∧ ∃ v', Own W w' [E1, E2, E3, bkE b v' pm bm l'] := by
  subst e1 e2
  exact bkPost_any _ HO (fun v' => .tail _ _ _ (.tail _ _ _ (.tail _ _ _ (.head _)))) hB hp hl
theorem bkBal4 (n o k : Int) (l : List Pst) (hn : inI n = true) (ho : inI o = true) (e : bal l n o = k) {W w : World} {b pm bm : Nat} {v : Value} {E1 E2 E3 : Ent} (HO : Own W w [E1, E2, E3, bkE b v pm bm l]) :
    Calls Try.prog 13 #[.pointer (some ⟨b, 0, none⟩), .int .i64 n, .int .i64 o] w fun e w' => e = .returned (.int .i64 k) ∧ Below w.heap.size w w' := by
  subst e
  exact bkBal_any (Own.bkAt HO (.tail _ _ _ (.tail _ _ _ (.tail _ _ _ (.head _))))) hn ho
theorem bkMany4 (l : List Pst) {W w : World} {b pm bm : Nat} {v : Value} {E1 E2 E3 : Ent} (HO : Own W w [E1, E2, E3, bkE b v pm bm l]) : Calls Try.prog 15 #[.pointer (some ⟨b, 0, none⟩)] w fun e w' => e = .returned (.int .i64 (l.length : Int)) ∧ Below w.heap.size w w' :=
  bkMany_any (Own.bkAt HO (.tail _ _ _ (.tail _ _ _ (.tail _ _ _ (.head _)))))
theorem bkZero4 (l : List Pst) (hm : ∀ p ∈ l, mayPst p = true) {W w : World} {b pm bm : Nat} {v : Value} {E1 E2 E3 : Ent} (HO : Own W w [E1, E2, E3, bkE b v pm bm l]) : Calls Try.prog 14 #[.pointer (some ⟨b, 0, none⟩)] w fun e w' => e = .returned (.bool true) ∧ Below w.heap.size w w' :=
  bkZero_any (Own.bkAt HO (.tail _ _ _ (.tail _ _ _ (.tail _ _ _ (.head _))))) hm
def pstA : Pst := ⟨⟨#[97]⟩, 1, 1, 2, 5⟩
theorem pstA_bk : Bk [pstA] := .snoc [] pstA .nil (by kernel_rfl) (by kernel_rfl) (by kernel_rfl)
theorem wfP_of {id : ByteArray} {o d c a : Int} (h : (inI o && inI d && (inI c && inI a) && decide (id.size ≤ maxLen)) = true) : WfP ⟨id, o, d, c, a⟩ := by
  simp only [Bool.and_eq_true, decide_eq_true_eq] at h
  exact ⟨h.1.1.1, h.1.1.2, h.1.2.1, h.1.2.2, h.2⟩

set_option maxHeartbeats 16000000 in
set_option maxRecDepth 100000 in
theorem posted_any (W : World) : Calls Try.prog 9 #[] W fun e w' => e = .returned (.bool true) ∧ Below W.heap.size W w' := by
  have HO := Own.start W
  have P1 := @bkPost4 ⟨#[97]⟩ 1 1 2 5 0 [] [pstA] (wfP_of (by kernel_rfl)) .nil (by decide) (by kernel_rfl) (by kernel_rfl)
  have P2 := @bkPost4 ⟨#[97]⟩ 1 1 2 5 0 [pstA] [pstA] (wfP_of (by kernel_rfl)) pstA_bk (by decide) (by kernel_rfl) (by kernel_rfl)
  have P3 := @bkPost4 ⟨#[97]⟩ 1 1 2 6 91 [pstA] [pstA] (wfP_of (by kernel_rfl)) pstA_bk (by decide) (by kernel_rfl) (by kernel_rfl)
  have P4 := @bkPost4 ⟨#[98]⟩ 1 1 2 9223372036854775807 90 [pstA] [pstA] (wfP_of (by kernel_rfl)) pstA_bk (by decide) (by kernel_rfl) (by kernel_rfl)
  have P5 := @bkPost4 ⟨#[99]⟩ 1 2 2 0 2 [pstA] [pstA] (wfP_of (by kernel_rfl)) pstA_bk (by decide) (by kernel_rfl) (by kernel_rfl)
  have B1 := @bkBal4 1 1 5 [pstA] rfl rfl (by kernel_rfl)
  have B2 := @bkBal4 2 0 (-5) [pstA] rfl rfl (by kernel_rfl)
  have B3 := @bkBal4 2 2 0 [pstA] rfl rfl (by kernel_rfl)
  have M1 := @bkMany4 [pstA]
  have Z1 := @bkZero4 [pstA] pstA_bk.may
  have hl1 : (([pstA] : List Pst).length : Int) = 1 := rfl
  generalize [pstA] = lA at *
  go_enter Try.func9, Try.ntmps9
  go_wp2_with (first | (go_at_call 10; go_must ((with_reducible refine (bkNew_any _).mono ?_); rintro e w ⟨b1, pm, bm, rfl, HO1⟩; replace HO := HO.lift HO1; clear HO1; simp only [List.cons_append, List.nil_append] at HO)) | (first | ((with_reducible apply wpList_boxAgg _ HO rfl); exact rfl; exact rfl; exact rfl; clear HO; intro b2 w HO; (simp only [Act.put, List.setIfInBounds_toArray, List.set_cons_succ, List.set_cons_zero])) | ((with_reducible apply wpList_allocAgg _ HO rfl); exact rfl; infer_instance; exact rfl; clear HO; intro b2 w HO; (simp only [Act.put, List.setIfInBounds_toArray, List.set_cons_succ, List.set_cons_zero]))) | (first | go_big_skip | ((with_reducible apply wpList_loadAll HO); exact rfl; exact rfl; (repeat (with_reducible (first | exact At.head _ | apply At.tail))); infer_instance; exact rfl; exact rfl; (simp only [Act.put, List.setIfInBounds_toArray, List.set_cons_succ, List.set_cons_zero])) | ((with_reducible apply wpList_loadOne HO); exact rfl; exact rfl; (repeat (with_reducible (first | exact At.head _ | apply At.tail))); exact rfl; infer_instance; exact rfl; (simp only [Act.put, List.setIfInBounds_toArray, List.set_cons_succ, List.set_cons_zero]))) | ((with_reducible apply wpList_storeAll HO); exact rfl; exact rfl; exact rfl; (repeat (with_reducible (first | exact At.head _ | apply At.tail))); infer_instance; exact rfl; exact rfl; exact rfl; exact rfl; clear HO; intro w HO; (simp only [Act.put])) | ((with_reducible apply wpList_storeOne HO); exact rfl; exact rfl; (first | (simp [Act.eval]; rfl) | exact rfl); exact rfl; (repeat (with_reducible (first | exact At.head _ | apply At.tail))); infer_instance; exact (by simp); (simp only [List.set_cons_succ, List.set_cons_zero]; rfl); exact rfl; clear HO; intro w HO; (simp only [Act.put])) | (go_at_call 11; first | ((with_reducible refine (P1 HO).mono ?_); clear HO; rintro e w ⟨rfl, v9, HO⟩) | ((with_reducible refine (P2 HO).mono ?_); clear HO; rintro e w ⟨rfl, v9, HO⟩) | ((with_reducible refine (P3 HO).mono ?_); clear HO; rintro e w ⟨rfl, v9, HO⟩) | ((with_reducible refine (P4 HO).mono ?_); clear HO; rintro e w ⟨rfl, v9, HO⟩) | ((with_reducible refine (P5 HO).mono ?_); clear HO; rintro e w ⟨rfl, v9, HO⟩)) | (go_at_call 13; first | ((with_reducible refine (B1 HO).mono ?_); (rintro e w ⟨rfl, hb⟩; replace HO := HO.call hb; clear hb)) | ((with_reducible refine (B2 HO).mono ?_); (rintro e w ⟨rfl, hb⟩; replace HO := HO.call hb; clear hb)) | ((with_reducible refine (B3 HO).mono ?_); (rintro e w ⟨rfl, hb⟩; replace HO := HO.call hb; clear hb))) | (go_at_call 15; go_must ((with_reducible refine (M1 HO).mono ?_); rintro e w ⟨rfl, hb⟩; replace HO := HO.call hb; clear hb)) | (go_at_call 14; go_must ((with_reducible refine (Z1 HO).mono ?_); rintro e w ⟨rfl, hb⟩; replace HO := HO.call hb; clear hb)))
  go_ret
  exact ⟨rfl, HO.grown⟩
end Go.Proofs.Ythiokpjakiidjaa

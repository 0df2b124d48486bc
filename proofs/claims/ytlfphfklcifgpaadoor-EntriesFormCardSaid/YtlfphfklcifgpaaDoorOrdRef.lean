/-
  The order of some bytes in the document's words: the plain law, and what its Get computes, by walking its text; conditions: texts no longer than memory bears.
-/
import Derived.Test.YtlfphfklcifgpaaDoorOrdGet
namespace Go.Proofs.YtlfphfklcifgpaaDoor
open Go.RowKit Go.Own

def rd3 (o : Option (Nat × List UInt8)) : Nat × List UInt8 × Bool := match o with
  | some (n, r) => (n, r, true)
  | none => (0, [], false)
def ct3 (o : Option (List UInt8 × List UInt8)) : List UInt8 × List UInt8 × Bool := match o with
  | some (n, r) => (n, r, true)
  | none => ([], [], false)
theorem retRead_eq (o : Option (Nat × List UInt8)) : retRead o = .tuple #[.int .u64 (rd3 o).1, .string ⟨(rd3 o).2.1.toArray⟩, .bool (rd3 o).2.2] := by cases o <;> rfl
theorem retCut_eq (o : Option (List UInt8 × List UInt8)) : retCut o = .tuple #[.string ⟨(ct3 o).1.toArray⟩, .string ⟨(ct3 o).2.1.toArray⟩, .bool (ct3 o).2.2] := by cases o <;> rfl
theorem rd3_len (l : List UInt8) : (rd3 (readB l)).2.1.length ≤ l.length := by
  cases h : readB l with
  | none => simp [rd3]
  | some x => obtain ⟨n, r⟩ := x; have := readB_len h; simp only [rd3]; omega
theorem ct3_len (l : List UInt8) : (ct3 (cutB l)).2.1.length ≤ l.length ∧ (ct3 (cutB l)).1.length ≤ l.length := by
  cases h : cutB l with
  | none => simp [ct3]
  | some x => obtain ⟨s, r⟩ := x; have := (cutB_iff.1 h).2; subst this; simp [ct3, textB]; omega

/-- What is read, one after the other, of an order's bytes with anything behind them. -/
theorem put_seq {id qty amt : Int} {ref sku : List UInt8} (h : ordCheck id ref sku qty amt = 0) (r : List UInt8) :
    ∃ A B C D, readB (putOrd id ref sku qty amt ++ r) = some (id.toNat, A) ∧ cutB A = some (ref, B) ∧ cutB B = some (sku, C) ∧ readB C = some (qty.toNat, D) ∧ readB D = some (amt.toNat, r) := by
  obtain ⟨a1, a2, a3, a4, a5, a6, _, _, a9, a10, _, _⟩ := ordCheck_ok h
  refine ⟨textB ref ++ (textB sku ++ (varF 10 qty.toNat ++ (varF 10 amt.toNat ++ r))), textB sku ++ (varF 10 qty.toNat ++ (varF 10 amt.toNat ++ r)), varF 10 qty.toNat ++ (varF 10 amt.toNat ++ r), varF 10 amt.toNat ++ r,
    readB_iff.2 ⟨by omega, ?_⟩, cutB_iff.2 ⟨by omega, rfl⟩, cutB_iff.2 ⟨by omega, rfl⟩, readB_iff.2 ⟨by omega, rfl⟩, readB_iff.2 ⟨by omega, rfl⟩⟩
  rw [putOrd, if_pos h]
  simp
/-- The bytes of an order are no other's with something behind them. -/
theorem putOrd_free {id qty amt id' qty' amt' : Int} {ref sku ref' sku' r r' : List UInt8} (h : ordCheck id ref sku qty amt = 0) (h' : ordCheck id' ref' sku' qty' amt' = 0)
    (e : putOrd id ref sku qty amt ++ r = putOrd id' ref' sku' qty' amt' ++ r') : r = r' := by
  obtain ⟨A, B, C, D, e1, e2, e3, e4, e5⟩ := put_seq h r
  obtain ⟨A', B', C', D', f1, f2, f3, f4, f5⟩ := put_seq h' r'
  rw [e, f1] at e1
  simp only [Option.some.injEq, Prod.mk.injEq] at e1
  rw [← e1.2, f2] at e2
  simp only [Option.some.injEq, Prod.mk.injEq] at e2
  rw [← e2.2, f3] at e3
  simp only [Option.some.injEq, Prod.mk.injEq] at e3
  rw [← e3.2, f4] at e4
  simp only [Option.some.injEq, Prod.mk.injEq] at e4
  rw [← e4.2, f5] at e5
  simp only [Option.some.injEq, Prod.mk.injEq] at e5
  exact e5.2.symm
theorem getOrd_behind {id qty amt : Int} {ref sku b : List UInt8} (h : ordCheck id ref sku qty amt = 0) (hb : b ≠ []) : getOrd (putOrd id ref sku qty amt ++ b) = none := by
  cases hg : getOrd (putOrd id ref sku qty amt ++ b) with
  | none => rfl
  | some x =>
    obtain ⟨id', ref', sku', qty', amt'⟩ := x
    obtain ⟨h1, h2⟩ := getOrd_some hg
    exact absurd (putOrd_free (r' := []) h h1 (by rw [h2]; simp)) hb
theorem getOrd_cut {id qty amt : Int} {ref sku : List UInt8} {k : Nat} (h : ordCheck id ref sku qty amt = 0) (hk : k < (putOrd id ref sku qty amt).length) : getOrd ((putOrd id ref sku qty amt).take k) = none := by
  cases hg : getOrd ((putOrd id ref sku qty amt).take k) with
  | none => rfl
  | some x =>
    obtain ⟨id', ref', sku', qty', amt'⟩ := x
    obtain ⟨h1, h2⟩ := getOrd_some hg
    have := putOrd_free (r := []) (r' := (putOrd id ref sku qty amt).drop k) h h1 (by rw [h2]; simp)
    have hl := congrArg List.length this
    simp at hl; omega

theorem getOrd_ref (l : List UInt8) (n1 n4 n5 : Nat) (s1 t2 s2 t3 s3 s4 s5 : List UInt8) (o1 o2 o3 o4 o5 : Bool)
    (h1 : rd3 (readB l) = (n1, s1, o1)) (h2 : ct3 (cutB s1) = (t2, s2, o2)) (h3 : ct3 (cutB s2) = (t3, s3, o3)) (h4 : rd3 (readB s3) = (n4, s4, o4)) (h5 : rd3 (readB s4) = (n5, s5, o5)) :
    getOrd l = if o1 = true ∧ o2 = true ∧ o3 = true ∧ o4 = true ∧ o5 = true ∧ n1 ≤ 60 ∧ n4 ≤ 999 ∧ n5 ≤ 1099511627776 ∧ ordCheck n1 t2 t3 n4 n5 = 0 ∧ putOrd n1 t2 t3 n4 n5 = l then some (n1, t2, t3, n4, n5) else none := by
  by_cases hc : o1 = true ∧ o2 = true ∧ o3 = true ∧ o4 = true ∧ o5 = true ∧ n1 ≤ 60 ∧ n4 ≤ 999 ∧ n5 ≤ 1099511627776 ∧ ordCheck n1 t2 t3 n4 n5 = 0 ∧ putOrd n1 t2 t3 n4 n5 = l
  · rw [if_pos hc]
    obtain ⟨_, _, _, _, _, _, _, _, k1, k2⟩ := hc
    rw [← k2, getOrd_put k1]
    simp
  · rw [if_neg hc]
    cases hg : getOrd l with
    | none => rfl
    | some x =>
      obtain ⟨id, ref, sku, qty, amt⟩ := x
      obtain ⟨k1, k2⟩ := getOrd_some hg
      obtain ⟨b1, b2, b3, b4, b5, b6, _, _, _, _, _, _⟩ := ordCheck_ok k1
      obtain ⟨A, B, C, D, e1, e2, e3, e4, e5⟩ := put_seq k1 []
      rw [List.append_nil, k2] at e1
      rw [e1] at h1
      simp only [rd3, Prod.mk.injEq] at h1
      obtain ⟨rfl, rfl, rfl⟩ := h1
      rw [e2] at h2
      simp only [ct3, Prod.mk.injEq] at h2
      obtain ⟨rfl, rfl, rfl⟩ := h2
      rw [e3] at h3
      simp only [ct3, Prod.mk.injEq] at h3
      obtain ⟨rfl, rfl, rfl⟩ := h3
      rw [e4] at h4
      simp only [rd3, Prod.mk.injEq] at h4
      obtain ⟨rfl, rfl, rfl⟩ := h4
      rw [e5] at h5
      simp only [rd3, Prod.mk.injEq] at h5
      obtain ⟨rfl, rfl, rfl⟩ := h5
      refine absurd ⟨rfl, rfl, rfl, rfl, rfl, ?_, ?_, ?_, ?_, ?_⟩ hc
      all_goals simp only [Int.toNat_natCast]
      all_goals first | assumption | omega

theorem wrap_i64_nat (n : Nat) (h : n < 9223372036854775808) : IntKind.i64.wrap (n : Int) = n := by
  simp only [IntKind.wrap, IntKind.bits, IntKind.signed]; simp; omega

set_option maxHeartbeats 8000000 in
set_option maxRecDepth 100000 in
theorem refGetOrd_any (l : List UInt8) (w : World) (hl : l.length ≤ maxLen) : Calls Tryd.prog 70 #[.string ⟨l.toArray⟩] w fun e w' => e = .returned (retGet (getOrd l)) ∧ Below w.heap.size w w' := by
  have R1 := fun w => refRead_any l w hl
  rw [retRead_eq] at R1
  have k1 := rd3_len l
  rcases h1 : rd3 (readB l) with ⟨n1, s1, o1⟩
  rw [h1] at R1 k1
  simp only at R1 k1
  have R2 := fun w => refCut_any s1 w (by omega)
  rw [retCut_eq] at R2
  have k2 := ct3_len s1
  rcases h2 : ct3 (cutB s1) with ⟨t2, s2, o2⟩
  rw [h2] at R2 k2
  simp only at R2 k2
  have R3 := fun w => refCut_any s2 w (by omega)
  rw [retCut_eq] at R3
  have k3 := ct3_len s2
  rcases h3 : ct3 (cutB s2) with ⟨t3, s3, o3⟩
  rw [h3] at R3 k3
  simp only at R3 k3
  have R4 := fun w => refRead_any s3 w (by omega)
  rw [retRead_eq] at R4
  have k4 := rd3_len s3
  rcases h4 : rd3 (readB s3) with ⟨n4, s4, o4⟩
  rw [h4] at R4 k4
  simp only at R4 k4
  have R5 := fun w => refRead_any s4 w (by omega)
  rw [retRead_eq] at R5
  rcases h5 : rd3 (readB s4) with ⟨n5, s5, o5⟩
  rw [h5] at R5
  simp only at R5
  have hG := getOrd_ref l n1 n4 n5 s1 t2 s2 t3 s3 s4 s5 o1 o2 o3 o4 o5 h1 h2 h3 h4 h5
  have C := fun w => refOrdCheck_any n1 t2 t3 n4 n5 w (by omega) (by omega)
  have P := fun w => refPutOrd_any n1 t2 t3 n4 n5 w (by omega) (by omega)
  clear h1 h2 h3 h4 h5 k1 k2 k3 k4
  cases o1
  · have HQ := Lib.hid (hG.trans (if_neg (by simp)))
    clear hG
    go_enter Tryd.func70, Tryd.ntmps70
    go_wp2_with (first | (go_at_call 69; go_must ((first | (with_reducible refine (R1 _).mono ?_) | (with_reducible refine (R4 _).mono ?_) | (with_reducible refine (R5 _).mono ?_)); rintro e w1 ⟨rfl, hb⟩; obtain ⟨hc, hf⟩ := bcell hb; have hz := hb.size; (try simp at hz); (try have hzT := Nat.lt_of_succ_le hz); have hzA : w.heap.size < w1.heap.size := (by omega); have hzA2 := Nat.le_of_lt hzA)) | (go_at_call 89; go_must ((first | (with_reducible refine (R2 _).mono ?_) | (with_reducible refine (R3 _).mono ?_)); rintro e w1 ⟨rfl, hb⟩; obtain ⟨hc, hf⟩ := bcell hb; have hz := hb.size; (try simp at hz); (try have hzT := Nat.lt_of_succ_le hz); have hzA : w.heap.size < w1.heap.size := (by omega); have hzA2 := Nat.le_of_lt hzA)) | (go_at_call 72; go_must ((with_reducible refine (C _).mono ?_); rintro e w1 ⟨rfl, hb⟩; obtain ⟨hc, hf⟩ := bcell hb; have hz := hb.size; (try simp at hz); (try have hzT := Nat.lt_of_succ_le hz); have hzA : w.heap.size < w1.heap.size := (by omega); have hzB : w.heap.size + 1 < w1.heap.size := (by omega); have hzA2 := Nat.le_of_lt hzA; have hzB2 := Nat.le_of_lt hzB)) | (go_at_call 63; go_must ((with_reducible refine (P _).mono ?_); rintro e w1 ⟨rfl, hb⟩; obtain ⟨hc, hf⟩ := bcell hb; have hz := hb.size; (try simp at hz); (try have hzT := Nat.lt_of_succ_le hz); have hzA : w.heap.size < w1.heap.size := (by omega); have hzB : w.heap.size + 1 < w1.heap.size := (by omega); have hzA2 := Nat.le_of_lt hzA; have hzB2 := Nat.le_of_lt hzB)))
    have hR : Below (w.heap.size + 1) (w.alloc (.cells #[.int .i64 0, .string ⟨#[]⟩, .string ⟨#[]⟩, .int .i64 0, .int .i64 0] 60)) w1 := (by with_reducible (repeat (first | exact Below.refl _ _ | refine Below.drew ?_ | refine below_drewN ?_ _ | refine Below.alloc ?_ (by first | (simp; done) | omega | (simp; omega)) _ | refine Below.setCell ?_ (by first | (simp; done) | omega | (simp; omega)) _ | refine Below.trans ?_ (Below.mono (by assumption) (by first | (simp; done) | omega | (simp; omega))) | refine After.below (by assumption) ?_ (by omega) (by first | (simp; done) | omega | (simp; omega)))))
    obtain ⟨hcR, hfR⟩ := bcell hR
    clear hc hf
    refine bodyPost_ret (v := .tuple #[.agg #[.int .i64 0, .string ⟨#[]⟩, .string ⟨#[]⟩, .int .i64 0, .int .i64 0], .int .i64 10]) ?_ rfl ⟨by rw [HQ.out]; rfl, ?_⟩
    · (simp only [results, Tryd.results70]; go_simp)
    · exact (by with_reducible (repeat (first | assumption | exact Below.refl _ _ | refine Below.drew ?_ | refine below_drewN ?_ _ | refine Below.alloc ?_ (by first | (simp; done) | omega | (simp; omega)) _ | refine Below.setCell ?_ (by first | (simp; done) | omega | (simp; omega)) _ | refine Below.trans ?_ (Below.mono (by assumption) (by first | (simp; done) | omega | (simp; omega))))))
  ·
    cases o2
    · have HQ := Lib.hid (hG.trans (if_neg (by simp)))
      clear hG
      go_enter Tryd.func70, Tryd.ntmps70
      go_wp2_with (first | (go_at_call 69; go_must ((first | (with_reducible refine (R1 _).mono ?_) | (with_reducible refine (R4 _).mono ?_) | (with_reducible refine (R5 _).mono ?_)); rintro e w1 ⟨rfl, hb⟩; obtain ⟨hc, hf⟩ := bcell hb; have hz := hb.size; (try simp at hz); (try have hzT := Nat.lt_of_succ_le hz); have hzA : w.heap.size < w1.heap.size := (by omega); have hzA2 := Nat.le_of_lt hzA)) | (go_at_call 89; go_must ((first | (with_reducible refine (R2 _).mono ?_) | (with_reducible refine (R3 _).mono ?_)); rintro e w1 ⟨rfl, hb⟩; obtain ⟨hc, hf⟩ := bcell hb; have hz := hb.size; (try simp at hz); (try have hzT := Nat.lt_of_succ_le hz); have hzA : w.heap.size < w1.heap.size := (by omega); have hzA2 := Nat.le_of_lt hzA)) | (go_at_call 72; go_must ((with_reducible refine (C _).mono ?_); rintro e w1 ⟨rfl, hb⟩; obtain ⟨hc, hf⟩ := bcell hb; have hz := hb.size; (try simp at hz); (try have hzT := Nat.lt_of_succ_le hz); have hzA : w.heap.size < w1.heap.size := (by omega); have hzB : w.heap.size + 1 < w1.heap.size := (by omega); have hzA2 := Nat.le_of_lt hzA; have hzB2 := Nat.le_of_lt hzB)) | (go_at_call 63; go_must ((with_reducible refine (P _).mono ?_); rintro e w1 ⟨rfl, hb⟩; obtain ⟨hc, hf⟩ := bcell hb; have hz := hb.size; (try simp at hz); (try have hzT := Nat.lt_of_succ_le hz); have hzA : w.heap.size < w1.heap.size := (by omega); have hzB : w.heap.size + 1 < w1.heap.size := (by omega); have hzA2 := Nat.le_of_lt hzA; have hzB2 := Nat.le_of_lt hzB)))
      have hR : Below (w.heap.size + 1) (w.alloc (.cells #[.int .i64 0, .string ⟨#[]⟩, .string ⟨#[]⟩, .int .i64 0, .int .i64 0] 60)) w1 := (by with_reducible (repeat (first | exact Below.refl _ _ | refine Below.drew ?_ | refine below_drewN ?_ _ | refine Below.alloc ?_ (by first | (simp; done) | omega | (simp; omega)) _ | refine Below.setCell ?_ (by first | (simp; done) | omega | (simp; omega)) _ | refine Below.trans ?_ (Below.mono (by assumption) (by first | (simp; done) | omega | (simp; omega))) | refine After.below (by assumption) ?_ (by omega) (by first | (simp; done) | omega | (simp; omega)))))
      obtain ⟨hcR, hfR⟩ := bcell hR
      clear hc hf
      refine bodyPost_ret (v := .tuple #[.agg #[.int .i64 0, .string ⟨#[]⟩, .string ⟨#[]⟩, .int .i64 0, .int .i64 0], .int .i64 10]) ?_ rfl ⟨by rw [HQ.out]; rfl, ?_⟩
      · (simp only [results, Tryd.results70]; go_simp)
      · exact (by with_reducible (repeat (first | assumption | exact Below.refl _ _ | refine Below.drew ?_ | refine below_drewN ?_ _ | refine Below.alloc ?_ (by first | (simp; done) | omega | (simp; omega)) _ | refine Below.setCell ?_ (by first | (simp; done) | omega | (simp; omega)) _ | refine Below.trans ?_ (Below.mono (by assumption) (by first | (simp; done) | omega | (simp; omega))))))
    ·
      cases o3
      · have HQ := Lib.hid (hG.trans (if_neg (by simp)))
        clear hG
        go_enter Tryd.func70, Tryd.ntmps70
        go_wp2_with (first | (go_at_call 69; go_must ((first | (with_reducible refine (R1 _).mono ?_) | (with_reducible refine (R4 _).mono ?_) | (with_reducible refine (R5 _).mono ?_)); rintro e w1 ⟨rfl, hb⟩; obtain ⟨hc, hf⟩ := bcell hb; have hz := hb.size; (try simp at hz); (try have hzT := Nat.lt_of_succ_le hz); have hzA : w.heap.size < w1.heap.size := (by omega); have hzA2 := Nat.le_of_lt hzA)) | (go_at_call 89; go_must ((first | (with_reducible refine (R2 _).mono ?_) | (with_reducible refine (R3 _).mono ?_)); rintro e w1 ⟨rfl, hb⟩; obtain ⟨hc, hf⟩ := bcell hb; have hz := hb.size; (try simp at hz); (try have hzT := Nat.lt_of_succ_le hz); have hzA : w.heap.size < w1.heap.size := (by omega); have hzA2 := Nat.le_of_lt hzA)) | (go_at_call 72; go_must ((with_reducible refine (C _).mono ?_); rintro e w1 ⟨rfl, hb⟩; obtain ⟨hc, hf⟩ := bcell hb; have hz := hb.size; (try simp at hz); (try have hzT := Nat.lt_of_succ_le hz); have hzA : w.heap.size < w1.heap.size := (by omega); have hzB : w.heap.size + 1 < w1.heap.size := (by omega); have hzA2 := Nat.le_of_lt hzA; have hzB2 := Nat.le_of_lt hzB)) | (go_at_call 63; go_must ((with_reducible refine (P _).mono ?_); rintro e w1 ⟨rfl, hb⟩; obtain ⟨hc, hf⟩ := bcell hb; have hz := hb.size; (try simp at hz); (try have hzT := Nat.lt_of_succ_le hz); have hzA : w.heap.size < w1.heap.size := (by omega); have hzB : w.heap.size + 1 < w1.heap.size := (by omega); have hzA2 := Nat.le_of_lt hzA; have hzB2 := Nat.le_of_lt hzB)))
        have hR : Below (w.heap.size + 1) (w.alloc (.cells #[.int .i64 0, .string ⟨#[]⟩, .string ⟨#[]⟩, .int .i64 0, .int .i64 0] 60)) w1 := (by with_reducible (repeat (first | exact Below.refl _ _ | refine Below.drew ?_ | refine below_drewN ?_ _ | refine Below.alloc ?_ (by first | (simp; done) | omega | (simp; omega)) _ | refine Below.setCell ?_ (by first | (simp; done) | omega | (simp; omega)) _ | refine Below.trans ?_ (Below.mono (by assumption) (by first | (simp; done) | omega | (simp; omega))) | refine After.below (by assumption) ?_ (by omega) (by first | (simp; done) | omega | (simp; omega)))))
        obtain ⟨hcR, hfR⟩ := bcell hR
        clear hc hf
        refine bodyPost_ret (v := .tuple #[.agg #[.int .i64 0, .string ⟨#[]⟩, .string ⟨#[]⟩, .int .i64 0, .int .i64 0], .int .i64 10]) ?_ rfl ⟨by rw [HQ.out]; rfl, ?_⟩
        · (simp only [results, Tryd.results70]; go_simp)
        · exact (by with_reducible (repeat (first | assumption | exact Below.refl _ _ | refine Below.drew ?_ | refine below_drewN ?_ _ | refine Below.alloc ?_ (by first | (simp; done) | omega | (simp; omega)) _ | refine Below.setCell ?_ (by first | (simp; done) | omega | (simp; omega)) _ | refine Below.trans ?_ (Below.mono (by assumption) (by first | (simp; done) | omega | (simp; omega))))))
      ·
        cases o4
        · have HQ := Lib.hid (hG.trans (if_neg (by simp)))
          clear hG
          go_enter Tryd.func70, Tryd.ntmps70
          go_wp2_with (first | (go_at_call 69; go_must ((first | (with_reducible refine (R1 _).mono ?_) | (with_reducible refine (R4 _).mono ?_) | (with_reducible refine (R5 _).mono ?_)); rintro e w1 ⟨rfl, hb⟩; obtain ⟨hc, hf⟩ := bcell hb; have hz := hb.size; (try simp at hz); (try have hzT := Nat.lt_of_succ_le hz); have hzA : w.heap.size < w1.heap.size := (by omega); have hzA2 := Nat.le_of_lt hzA)) | (go_at_call 89; go_must ((first | (with_reducible refine (R2 _).mono ?_) | (with_reducible refine (R3 _).mono ?_)); rintro e w1 ⟨rfl, hb⟩; obtain ⟨hc, hf⟩ := bcell hb; have hz := hb.size; (try simp at hz); (try have hzT := Nat.lt_of_succ_le hz); have hzA : w.heap.size < w1.heap.size := (by omega); have hzA2 := Nat.le_of_lt hzA)) | (go_at_call 72; go_must ((with_reducible refine (C _).mono ?_); rintro e w1 ⟨rfl, hb⟩; obtain ⟨hc, hf⟩ := bcell hb; have hz := hb.size; (try simp at hz); (try have hzT := Nat.lt_of_succ_le hz); have hzA : w.heap.size < w1.heap.size := (by omega); have hzB : w.heap.size + 1 < w1.heap.size := (by omega); have hzA2 := Nat.le_of_lt hzA; have hzB2 := Nat.le_of_lt hzB)) | (go_at_call 63; go_must ((with_reducible refine (P _).mono ?_); rintro e w1 ⟨rfl, hb⟩; obtain ⟨hc, hf⟩ := bcell hb; have hz := hb.size; (try simp at hz); (try have hzT := Nat.lt_of_succ_le hz); have hzA : w.heap.size < w1.heap.size := (by omega); have hzB : w.heap.size + 1 < w1.heap.size := (by omega); have hzA2 := Nat.le_of_lt hzA; have hzB2 := Nat.le_of_lt hzB)))
          have hR : Below (w.heap.size + 1) (w.alloc (.cells #[.int .i64 0, .string ⟨#[]⟩, .string ⟨#[]⟩, .int .i64 0, .int .i64 0] 60)) w1 := (by with_reducible (repeat (first | exact Below.refl _ _ | refine Below.drew ?_ | refine below_drewN ?_ _ | refine Below.alloc ?_ (by first | (simp; done) | omega | (simp; omega)) _ | refine Below.setCell ?_ (by first | (simp; done) | omega | (simp; omega)) _ | refine Below.trans ?_ (Below.mono (by assumption) (by first | (simp; done) | omega | (simp; omega))) | refine After.below (by assumption) ?_ (by omega) (by first | (simp; done) | omega | (simp; omega)))))
          obtain ⟨hcR, hfR⟩ := bcell hR
          clear hc hf
          refine bodyPost_ret (v := .tuple #[.agg #[.int .i64 0, .string ⟨#[]⟩, .string ⟨#[]⟩, .int .i64 0, .int .i64 0], .int .i64 10]) ?_ rfl ⟨by rw [HQ.out]; rfl, ?_⟩
          · (simp only [results, Tryd.results70]; go_simp)
          · exact (by with_reducible (repeat (first | assumption | exact Below.refl _ _ | refine Below.drew ?_ | refine below_drewN ?_ _ | refine Below.alloc ?_ (by first | (simp; done) | omega | (simp; omega)) _ | refine Below.setCell ?_ (by first | (simp; done) | omega | (simp; omega)) _ | refine Below.trans ?_ (Below.mono (by assumption) (by first | (simp; done) | omega | (simp; omega))))))
        ·
          cases o5
          · have HQ := Lib.hid (hG.trans (if_neg (by simp)))
            clear hG
            go_enter Tryd.func70, Tryd.ntmps70
            go_wp2_with (first | (go_at_call 69; go_must ((first | (with_reducible refine (R1 _).mono ?_) | (with_reducible refine (R4 _).mono ?_) | (with_reducible refine (R5 _).mono ?_)); rintro e w1 ⟨rfl, hb⟩; obtain ⟨hc, hf⟩ := bcell hb; have hz := hb.size; (try simp at hz); (try have hzT := Nat.lt_of_succ_le hz); have hzA : w.heap.size < w1.heap.size := (by omega); have hzA2 := Nat.le_of_lt hzA)) | (go_at_call 89; go_must ((first | (with_reducible refine (R2 _).mono ?_) | (with_reducible refine (R3 _).mono ?_)); rintro e w1 ⟨rfl, hb⟩; obtain ⟨hc, hf⟩ := bcell hb; have hz := hb.size; (try simp at hz); (try have hzT := Nat.lt_of_succ_le hz); have hzA : w.heap.size < w1.heap.size := (by omega); have hzA2 := Nat.le_of_lt hzA)) | (go_at_call 72; go_must ((with_reducible refine (C _).mono ?_); rintro e w1 ⟨rfl, hb⟩; obtain ⟨hc, hf⟩ := bcell hb; have hz := hb.size; (try simp at hz); (try have hzT := Nat.lt_of_succ_le hz); have hzA : w.heap.size < w1.heap.size := (by omega); have hzB : w.heap.size + 1 < w1.heap.size := (by omega); have hzA2 := Nat.le_of_lt hzA; have hzB2 := Nat.le_of_lt hzB)) | (go_at_call 63; go_must ((with_reducible refine (P _).mono ?_); rintro e w1 ⟨rfl, hb⟩; obtain ⟨hc, hf⟩ := bcell hb; have hz := hb.size; (try simp at hz); (try have hzT := Nat.lt_of_succ_le hz); have hzA : w.heap.size < w1.heap.size := (by omega); have hzB : w.heap.size + 1 < w1.heap.size := (by omega); have hzA2 := Nat.le_of_lt hzA; have hzB2 := Nat.le_of_lt hzB)))
            have hR : Below (w.heap.size + 1) (w.alloc (.cells #[.int .i64 0, .string ⟨#[]⟩, .string ⟨#[]⟩, .int .i64 0, .int .i64 0] 60)) w1 := (by with_reducible (repeat (first | exact Below.refl _ _ | refine Below.drew ?_ | refine below_drewN ?_ _ | refine Below.alloc ?_ (by first | (simp; done) | omega | (simp; omega)) _ | refine Below.setCell ?_ (by first | (simp; done) | omega | (simp; omega)) _ | refine Below.trans ?_ (Below.mono (by assumption) (by first | (simp; done) | omega | (simp; omega))) | refine After.below (by assumption) ?_ (by omega) (by first | (simp; done) | omega | (simp; omega)))))
            obtain ⟨hcR, hfR⟩ := bcell hR
            clear hc hf
            refine bodyPost_ret (v := .tuple #[.agg #[.int .i64 0, .string ⟨#[]⟩, .string ⟨#[]⟩, .int .i64 0, .int .i64 0], .int .i64 10]) ?_ rfl ⟨by rw [HQ.out]; rfl, ?_⟩
            · (simp only [results, Tryd.results70]; go_simp)
            · exact (by with_reducible (repeat (first | assumption | exact Below.refl _ _ | refine Below.drew ?_ | refine below_drewN ?_ _ | refine Below.alloc ?_ (by first | (simp; done) | omega | (simp; omega)) _ | refine Below.setCell ?_ (by first | (simp; done) | omega | (simp; omega)) _ | refine Below.trans ?_ (Below.mono (by assumption) (by first | (simp; done) | omega | (simp; omega))))))
          ·
            by_cases bn1 : n1 ≤ 60
            rotate_left
            · have HQ := Lib.hid (hG.trans (if_neg (by simp [bn1])))
              clear hG
              have gn1 : (60 : Int) < (n1 : Int) := by omega
              go_enter Tryd.func70, Tryd.ntmps70
              go_wp2_with (first | (go_at_call 69; go_must ((first | (with_reducible refine (R1 _).mono ?_) | (with_reducible refine (R4 _).mono ?_) | (with_reducible refine (R5 _).mono ?_)); rintro e w1 ⟨rfl, hb⟩; obtain ⟨hc, hf⟩ := bcell hb; have hz := hb.size; (try simp at hz); (try have hzT := Nat.lt_of_succ_le hz); have hzA : w.heap.size < w1.heap.size := (by omega); have hzA2 := Nat.le_of_lt hzA)) | (go_at_call 89; go_must ((first | (with_reducible refine (R2 _).mono ?_) | (with_reducible refine (R3 _).mono ?_)); rintro e w1 ⟨rfl, hb⟩; obtain ⟨hc, hf⟩ := bcell hb; have hz := hb.size; (try simp at hz); (try have hzT := Nat.lt_of_succ_le hz); have hzA : w.heap.size < w1.heap.size := (by omega); have hzA2 := Nat.le_of_lt hzA)) | (go_at_call 72; go_must ((with_reducible refine (C _).mono ?_); rintro e w1 ⟨rfl, hb⟩; obtain ⟨hc, hf⟩ := bcell hb; have hz := hb.size; (try simp at hz); (try have hzT := Nat.lt_of_succ_le hz); have hzA : w.heap.size < w1.heap.size := (by omega); have hzB : w.heap.size + 1 < w1.heap.size := (by omega); have hzA2 := Nat.le_of_lt hzA; have hzB2 := Nat.le_of_lt hzB)) | (go_at_call 63; go_must ((with_reducible refine (P _).mono ?_); rintro e w1 ⟨rfl, hb⟩; obtain ⟨hc, hf⟩ := bcell hb; have hz := hb.size; (try simp at hz); (try have hzT := Nat.lt_of_succ_le hz); have hzA : w.heap.size < w1.heap.size := (by omega); have hzB : w.heap.size + 1 < w1.heap.size := (by omega); have hzA2 := Nat.le_of_lt hzA; have hzB2 := Nat.le_of_lt hzB)))
              have hR : Below (w.heap.size + 1) (w.alloc (.cells #[.int .i64 0, .string ⟨#[]⟩, .string ⟨#[]⟩, .int .i64 0, .int .i64 0] 60)) w1 := (by with_reducible (repeat (first | exact Below.refl _ _ | refine Below.drew ?_ | refine below_drewN ?_ _ | refine Below.alloc ?_ (by first | (simp; done) | omega | (simp; omega)) _ | refine Below.setCell ?_ (by first | (simp; done) | omega | (simp; omega)) _ | refine Below.trans ?_ (Below.mono (by assumption) (by first | (simp; done) | omega | (simp; omega))) | refine After.below (by assumption) ?_ (by omega) (by first | (simp; done) | omega | (simp; omega)))))
              obtain ⟨hcR, hfR⟩ := bcell hR
              clear hc hf
              refine bodyPost_ret (v := .tuple #[.agg #[.int .i64 0, .string ⟨#[]⟩, .string ⟨#[]⟩, .int .i64 0, .int .i64 0], .int .i64 10]) ?_ rfl ⟨by rw [HQ.out]; rfl, ?_⟩
              · (simp only [results, Tryd.results70]; go_simp)
              · exact (by with_reducible (repeat (first | assumption | exact Below.refl _ _ | refine Below.drew ?_ | refine below_drewN ?_ _ | refine Below.alloc ?_ (by first | (simp; done) | omega | (simp; omega)) _ | refine Below.setCell ?_ (by first | (simp; done) | omega | (simp; omega)) _ | refine Below.trans ?_ (Below.mono (by assumption) (by first | (simp; done) | omega | (simp; omega))))))
            have gn1 : (n1 : Int) ≤ (60 : Int) := by omega
            by_cases bn4 : n4 ≤ 999
            rotate_left
            · have HQ := Lib.hid (hG.trans (if_neg (by simp [bn4])))
              clear hG
              have gn4 : (999 : Int) < (n4 : Int) := by omega
              go_enter Tryd.func70, Tryd.ntmps70
              go_wp2_with (first | (go_at_call 69; go_must ((first | (with_reducible refine (R1 _).mono ?_) | (with_reducible refine (R4 _).mono ?_) | (with_reducible refine (R5 _).mono ?_)); rintro e w1 ⟨rfl, hb⟩; obtain ⟨hc, hf⟩ := bcell hb; have hz := hb.size; (try simp at hz); (try have hzT := Nat.lt_of_succ_le hz); have hzA : w.heap.size < w1.heap.size := (by omega); have hzA2 := Nat.le_of_lt hzA)) | (go_at_call 89; go_must ((first | (with_reducible refine (R2 _).mono ?_) | (with_reducible refine (R3 _).mono ?_)); rintro e w1 ⟨rfl, hb⟩; obtain ⟨hc, hf⟩ := bcell hb; have hz := hb.size; (try simp at hz); (try have hzT := Nat.lt_of_succ_le hz); have hzA : w.heap.size < w1.heap.size := (by omega); have hzA2 := Nat.le_of_lt hzA)) | (go_at_call 72; go_must ((with_reducible refine (C _).mono ?_); rintro e w1 ⟨rfl, hb⟩; obtain ⟨hc, hf⟩ := bcell hb; have hz := hb.size; (try simp at hz); (try have hzT := Nat.lt_of_succ_le hz); have hzA : w.heap.size < w1.heap.size := (by omega); have hzB : w.heap.size + 1 < w1.heap.size := (by omega); have hzA2 := Nat.le_of_lt hzA; have hzB2 := Nat.le_of_lt hzB)) | (go_at_call 63; go_must ((with_reducible refine (P _).mono ?_); rintro e w1 ⟨rfl, hb⟩; obtain ⟨hc, hf⟩ := bcell hb; have hz := hb.size; (try simp at hz); (try have hzT := Nat.lt_of_succ_le hz); have hzA : w.heap.size < w1.heap.size := (by omega); have hzB : w.heap.size + 1 < w1.heap.size := (by omega); have hzA2 := Nat.le_of_lt hzA; have hzB2 := Nat.le_of_lt hzB)))
              have hR : Below (w.heap.size + 1) (w.alloc (.cells #[.int .i64 0, .string ⟨#[]⟩, .string ⟨#[]⟩, .int .i64 0, .int .i64 0] 60)) w1 := (by with_reducible (repeat (first | exact Below.refl _ _ | refine Below.drew ?_ | refine below_drewN ?_ _ | refine Below.alloc ?_ (by first | (simp; done) | omega | (simp; omega)) _ | refine Below.setCell ?_ (by first | (simp; done) | omega | (simp; omega)) _ | refine Below.trans ?_ (Below.mono (by assumption) (by first | (simp; done) | omega | (simp; omega))) | refine After.below (by assumption) ?_ (by omega) (by first | (simp; done) | omega | (simp; omega)))))
              obtain ⟨hcR, hfR⟩ := bcell hR
              clear hc hf
              refine bodyPost_ret (v := .tuple #[.agg #[.int .i64 0, .string ⟨#[]⟩, .string ⟨#[]⟩, .int .i64 0, .int .i64 0], .int .i64 10]) ?_ rfl ⟨by rw [HQ.out]; rfl, ?_⟩
              · (simp only [results, Tryd.results70]; go_simp)
              · exact (by with_reducible (repeat (first | assumption | exact Below.refl _ _ | refine Below.drew ?_ | refine below_drewN ?_ _ | refine Below.alloc ?_ (by first | (simp; done) | omega | (simp; omega)) _ | refine Below.setCell ?_ (by first | (simp; done) | omega | (simp; omega)) _ | refine Below.trans ?_ (Below.mono (by assumption) (by first | (simp; done) | omega | (simp; omega))))))
            have gn4 : (n4 : Int) ≤ (999 : Int) := by omega
            by_cases bn5 : n5 ≤ 1099511627776
            rotate_left
            · have HQ := Lib.hid (hG.trans (if_neg (by simp [bn5])))
              clear hG
              have gn5 : (1099511627776 : Int) < (n5 : Int) := by omega
              go_enter Tryd.func70, Tryd.ntmps70
              go_wp2_with (first | (go_at_call 69; go_must ((first | (with_reducible refine (R1 _).mono ?_) | (with_reducible refine (R4 _).mono ?_) | (with_reducible refine (R5 _).mono ?_)); rintro e w1 ⟨rfl, hb⟩; obtain ⟨hc, hf⟩ := bcell hb; have hz := hb.size; (try simp at hz); (try have hzT := Nat.lt_of_succ_le hz); have hzA : w.heap.size < w1.heap.size := (by omega); have hzA2 := Nat.le_of_lt hzA)) | (go_at_call 89; go_must ((first | (with_reducible refine (R2 _).mono ?_) | (with_reducible refine (R3 _).mono ?_)); rintro e w1 ⟨rfl, hb⟩; obtain ⟨hc, hf⟩ := bcell hb; have hz := hb.size; (try simp at hz); (try have hzT := Nat.lt_of_succ_le hz); have hzA : w.heap.size < w1.heap.size := (by omega); have hzA2 := Nat.le_of_lt hzA)) | (go_at_call 72; go_must ((with_reducible refine (C _).mono ?_); rintro e w1 ⟨rfl, hb⟩; obtain ⟨hc, hf⟩ := bcell hb; have hz := hb.size; (try simp at hz); (try have hzT := Nat.lt_of_succ_le hz); have hzA : w.heap.size < w1.heap.size := (by omega); have hzB : w.heap.size + 1 < w1.heap.size := (by omega); have hzA2 := Nat.le_of_lt hzA; have hzB2 := Nat.le_of_lt hzB)) | (go_at_call 63; go_must ((with_reducible refine (P _).mono ?_); rintro e w1 ⟨rfl, hb⟩; obtain ⟨hc, hf⟩ := bcell hb; have hz := hb.size; (try simp at hz); (try have hzT := Nat.lt_of_succ_le hz); have hzA : w.heap.size < w1.heap.size := (by omega); have hzB : w.heap.size + 1 < w1.heap.size := (by omega); have hzA2 := Nat.le_of_lt hzA; have hzB2 := Nat.le_of_lt hzB)))
              have hR : Below (w.heap.size + 1) (w.alloc (.cells #[.int .i64 0, .string ⟨#[]⟩, .string ⟨#[]⟩, .int .i64 0, .int .i64 0] 60)) w1 := (by with_reducible (repeat (first | exact Below.refl _ _ | refine Below.drew ?_ | refine below_drewN ?_ _ | refine Below.alloc ?_ (by first | (simp; done) | omega | (simp; omega)) _ | refine Below.setCell ?_ (by first | (simp; done) | omega | (simp; omega)) _ | refine Below.trans ?_ (Below.mono (by assumption) (by first | (simp; done) | omega | (simp; omega))) | refine After.below (by assumption) ?_ (by omega) (by first | (simp; done) | omega | (simp; omega)))))
              obtain ⟨hcR, hfR⟩ := bcell hR
              clear hc hf
              refine bodyPost_ret (v := .tuple #[.agg #[.int .i64 0, .string ⟨#[]⟩, .string ⟨#[]⟩, .int .i64 0, .int .i64 0], .int .i64 10]) ?_ rfl ⟨by rw [HQ.out]; rfl, ?_⟩
              · (simp only [results, Tryd.results70]; go_simp)
              · exact (by with_reducible (repeat (first | assumption | exact Below.refl _ _ | refine Below.drew ?_ | refine below_drewN ?_ _ | refine Below.alloc ?_ (by first | (simp; done) | omega | (simp; omega)) _ | refine Below.setCell ?_ (by first | (simp; done) | omega | (simp; omega)) _ | refine Below.trans ?_ (Below.mono (by assumption) (by first | (simp; done) | omega | (simp; omega))))))
            have gn5 : (n5 : Int) ≤ (1099511627776 : Int) := by omega
            have e1 := wrap_i64_nat n1 (by omega)
            have e4 := wrap_i64_nat n4 (by omega)
            have e5 := wrap_i64_nat n5 (by omega)
            by_cases hc : ordCheck n1 t2 t3 n4 n5 = 0
            rotate_left
            · have HQ := Lib.hid (hG.trans (if_neg (by simp [hc])))
              clear hG
              have hc0 : (ordCheck n1 t2 t3 n4 n5 == 0) = false := by simpa using hc
              have hc1 : (ordCheck n1 t2 t3 n4 n5 != 0) = true := by simpa using hc
              clear hc
              go_enter Tryd.func70, Tryd.ntmps70
              go_wp2_with (first | (go_at_call 69; go_must ((first | (with_reducible refine (R1 _).mono ?_) | (with_reducible refine (R4 _).mono ?_) | (with_reducible refine (R5 _).mono ?_)); rintro e w1 ⟨rfl, hb⟩; obtain ⟨hc, hf⟩ := bcell hb; have hz := hb.size; (try simp at hz); (try have hzT := Nat.lt_of_succ_le hz); have hzA : w.heap.size < w1.heap.size := (by omega); have hzA2 := Nat.le_of_lt hzA)) | (go_at_call 89; go_must ((first | (with_reducible refine (R2 _).mono ?_) | (with_reducible refine (R3 _).mono ?_)); rintro e w1 ⟨rfl, hb⟩; obtain ⟨hc, hf⟩ := bcell hb; have hz := hb.size; (try simp at hz); (try have hzT := Nat.lt_of_succ_le hz); have hzA : w.heap.size < w1.heap.size := (by omega); have hzA2 := Nat.le_of_lt hzA)) | (go_at_call 72; go_must ((with_reducible refine (C _).mono ?_); rintro e w1 ⟨rfl, hb⟩; obtain ⟨hc, hf⟩ := bcell hb; have hz := hb.size; (try simp at hz); (try have hzT := Nat.lt_of_succ_le hz); have hzA : w.heap.size < w1.heap.size := (by omega); have hzB : w.heap.size + 1 < w1.heap.size := (by omega); have hzA2 := Nat.le_of_lt hzA; have hzB2 := Nat.le_of_lt hzB)) | (go_at_call 63; go_must ((with_reducible refine (P _).mono ?_); rintro e w1 ⟨rfl, hb⟩; obtain ⟨hc, hf⟩ := bcell hb; have hz := hb.size; (try simp at hz); (try have hzT := Nat.lt_of_succ_le hz); have hzA : w.heap.size < w1.heap.size := (by omega); have hzB : w.heap.size + 1 < w1.heap.size := (by omega); have hzA2 := Nat.le_of_lt hzA; have hzB2 := Nat.le_of_lt hzB)))
              have hR : Below (w.heap.size + 1) (w.alloc (.cells #[.int .i64 0, .string ⟨#[]⟩, .string ⟨#[]⟩, .int .i64 0, .int .i64 0] 60)) w1 := (by with_reducible (repeat (first | exact Below.refl _ _ | refine Below.drew ?_ | refine below_drewN ?_ _ | refine Below.alloc ?_ (by first | (simp; done) | omega | (simp; omega)) _ | refine Below.setCell ?_ (by first | (simp; done) | omega | (simp; omega)) _ | refine Below.trans ?_ (Below.mono (by assumption) (by first | (simp; done) | omega | (simp; omega))) | refine After.below (by assumption) ?_ (by omega) (by first | (simp; done) | omega | (simp; omega)))))
              obtain ⟨hcR, hfR⟩ := bcell hR
              clear hc hf
              refine bodyPost_ret (v := .tuple #[.agg #[.int .i64 0, .string ⟨#[]⟩, .string ⟨#[]⟩, .int .i64 0, .int .i64 0], .int .i64 10]) ?_ rfl ⟨by rw [HQ.out]; rfl, ?_⟩
              · (simp only [results, Tryd.results70]; go_simp)
              · exact (by with_reducible (repeat (first | assumption | exact Below.refl _ _ | refine Below.drew ?_ | refine below_drewN ?_ _ | refine Below.alloc ?_ (by first | (simp; done) | omega | (simp; omega)) _ | refine Below.setCell ?_ (by first | (simp; done) | omega | (simp; omega)) _ | refine Below.trans ?_ (Below.mono (by assumption) (by first | (simp; done) | omega | (simp; omega))))))
            by_cases hp : putOrd n1 t2 t3 n4 n5 = l
            rotate_left
            · have HQ := Lib.hid (hG.trans (if_neg (by simp [hp])))
              rw [hc] at C
              clear hG hc
              have hp0 : (putOrd n1 t2 t3 n4 n5 == l) = false := by simpa using hp
              have hp1 : (putOrd n1 t2 t3 n4 n5 != l) = true := by simpa using hp
              clear hp
              go_enter Tryd.func70, Tryd.ntmps70
              go_wp2_with (first | (go_at_call 69; go_must ((first | (with_reducible refine (R1 _).mono ?_) | (with_reducible refine (R4 _).mono ?_) | (with_reducible refine (R5 _).mono ?_)); rintro e w1 ⟨rfl, hb⟩; obtain ⟨hc, hf⟩ := bcell hb; have hz := hb.size; (try simp at hz); (try have hzT := Nat.lt_of_succ_le hz); have hzA : w.heap.size < w1.heap.size := (by omega); have hzA2 := Nat.le_of_lt hzA)) | (go_at_call 89; go_must ((first | (with_reducible refine (R2 _).mono ?_) | (with_reducible refine (R3 _).mono ?_)); rintro e w1 ⟨rfl, hb⟩; obtain ⟨hc, hf⟩ := bcell hb; have hz := hb.size; (try simp at hz); (try have hzT := Nat.lt_of_succ_le hz); have hzA : w.heap.size < w1.heap.size := (by omega); have hzA2 := Nat.le_of_lt hzA)) | (go_at_call 72; go_must ((with_reducible refine (C _).mono ?_); rintro e w1 ⟨rfl, hb⟩; obtain ⟨hc, hf⟩ := bcell hb; have hz := hb.size; (try simp at hz); (try have hzT := Nat.lt_of_succ_le hz); have hzA : w.heap.size < w1.heap.size := (by omega); have hzB : w.heap.size + 1 < w1.heap.size := (by omega); have hzA2 := Nat.le_of_lt hzA; have hzB2 := Nat.le_of_lt hzB)) | (go_at_call 63; go_must ((with_reducible refine (P _).mono ?_); rintro e w1 ⟨rfl, hb⟩; obtain ⟨hc, hf⟩ := bcell hb; have hz := hb.size; (try simp at hz); (try have hzT := Nat.lt_of_succ_le hz); have hzA : w.heap.size < w1.heap.size := (by omega); have hzB : w.heap.size + 1 < w1.heap.size := (by omega); have hzA2 := Nat.le_of_lt hzA; have hzB2 := Nat.le_of_lt hzB)))
              have hR : Below (w.heap.size + 1) (w.alloc (.cells #[.int .i64 0, .string ⟨#[]⟩, .string ⟨#[]⟩, .int .i64 0, .int .i64 0] 60)) w1 := (by with_reducible (repeat (first | exact Below.refl _ _ | refine Below.drew ?_ | refine below_drewN ?_ _ | refine Below.alloc ?_ (by first | (simp; done) | omega | (simp; omega)) _ | refine Below.setCell ?_ (by first | (simp; done) | omega | (simp; omega)) _ | refine Below.trans ?_ (Below.mono (by assumption) (by first | (simp; done) | omega | (simp; omega))) | refine After.below (by assumption) ?_ (by omega) (by first | (simp; done) | omega | (simp; omega)))))
              obtain ⟨hcR, hfR⟩ := bcell hR
              clear hc hf
              refine bodyPost_ret (v := .tuple #[.agg #[.int .i64 0, .string ⟨#[]⟩, .string ⟨#[]⟩, .int .i64 0, .int .i64 0], .int .i64 10]) ?_ rfl ⟨by rw [HQ.out]; rfl, ?_⟩
              · (simp only [results, Tryd.results70]; go_simp)
              · exact (by with_reducible (repeat (first | assumption | exact Below.refl _ _ | refine Below.drew ?_ | refine below_drewN ?_ _ | refine Below.alloc ?_ (by first | (simp; done) | omega | (simp; omega)) _ | refine Below.setCell ?_ (by first | (simp; done) | omega | (simp; omega)) _ | refine Below.trans ?_ (Below.mono (by assumption) (by first | (simp; done) | omega | (simp; omega))))))
            have HQ := Lib.hid (hG.trans (if_pos ⟨rfl, rfl, rfl, rfl, rfl, bn1, bn4, bn5, hc, hp⟩))
            rw [hc] at C
            rw [hp] at P
            clear hG hc hp
            go_enter Tryd.func70, Tryd.ntmps70
            go_wp2_with (first | (go_at_call 69; go_must ((first | (with_reducible refine (R1 _).mono ?_) | (with_reducible refine (R4 _).mono ?_) | (with_reducible refine (R5 _).mono ?_)); rintro e w1 ⟨rfl, hb⟩; obtain ⟨hc, hf⟩ := bcell hb; have hz := hb.size; (try simp at hz); (try have hzT := Nat.lt_of_succ_le hz); have hzA : w.heap.size < w1.heap.size := (by omega); have hzA2 := Nat.le_of_lt hzA)) | (go_at_call 89; go_must ((first | (with_reducible refine (R2 _).mono ?_) | (with_reducible refine (R3 _).mono ?_)); rintro e w1 ⟨rfl, hb⟩; obtain ⟨hc, hf⟩ := bcell hb; have hz := hb.size; (try simp at hz); (try have hzT := Nat.lt_of_succ_le hz); have hzA : w.heap.size < w1.heap.size := (by omega); have hzA2 := Nat.le_of_lt hzA)) | (go_at_call 72; go_must ((with_reducible refine (C _).mono ?_); rintro e w1 ⟨rfl, hb⟩; obtain ⟨hc, hf⟩ := bcell hb; have hz := hb.size; (try simp at hz); (try have hzT := Nat.lt_of_succ_le hz); have hzA : w.heap.size < w1.heap.size := (by omega); have hzB : w.heap.size + 1 < w1.heap.size := (by omega); have hzA2 := Nat.le_of_lt hzA; have hzB2 := Nat.le_of_lt hzB)) | (go_at_call 63; go_must ((with_reducible refine (P _).mono ?_); rintro e w1 ⟨rfl, hb⟩; obtain ⟨hc, hf⟩ := bcell hb; have hz := hb.size; (try simp at hz); (try have hzT := Nat.lt_of_succ_le hz); have hzA : w.heap.size < w1.heap.size := (by omega); have hzB : w.heap.size + 1 < w1.heap.size := (by omega); have hzA2 := Nat.le_of_lt hzA; have hzB2 := Nat.le_of_lt hzB)))
            have hR : Below (w.heap.size + 1) (w.alloc (.cells #[.int .i64 0, .string ⟨#[]⟩, .string ⟨#[]⟩, .int .i64 0, .int .i64 0] 60)) w1 := (by with_reducible (repeat (first | exact Below.refl _ _ | refine Below.drew ?_ | refine below_drewN ?_ _ | refine Below.alloc ?_ (by first | (simp; done) | omega | (simp; omega)) _ | refine Below.setCell ?_ (by first | (simp; done) | omega | (simp; omega)) _ | refine Below.trans ?_ (Below.mono (by assumption) (by first | (simp; done) | omega | (simp; omega))) | refine After.below (by assumption) ?_ (by omega) (by first | (simp; done) | omega | (simp; omega)))))
            obtain ⟨hcR, hfR⟩ := bcell hR
            clear hc hf
            refine bodyPost_ret (v := .tuple #[.agg #[.int .i64 n1, .string ⟨t2.toArray⟩, .string ⟨t3.toArray⟩, .int .i64 n4, .int .i64 n5], .int .i64 0]) ?_ rfl ⟨by rw [HQ.out]; rfl, ?_⟩
            · (simp only [results, Tryd.results70]; go_simp)
            · exact (by with_reducible (repeat (first | assumption | exact Below.refl _ _ | refine Below.drew ?_ | refine below_drewN ?_ _ | refine Below.alloc ?_ (by first | (simp; done) | omega | (simp; omega)) _ | refine Below.setCell ?_ (by first | (simp; done) | omega | (simp; omega)) _ | refine Below.trans ?_ (Below.mono (by assumption) (by first | (simp; done) | omega | (simp; omega))))))
end Go.Proofs.YtlfphfklcifgpaaDoor

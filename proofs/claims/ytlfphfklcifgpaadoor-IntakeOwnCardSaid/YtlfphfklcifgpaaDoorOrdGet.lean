/-
  The order of some bytes: the plain law of getting and putting, and what Get computes, by walking its text; conditions: texts no longer than memory bears.
-/
import Derived.Test.YtlfphfklcifgpaaDoorReader
namespace Go.Proofs.YtlfphfklcifgpaaDoor
open Go.RowKit Go.Own

theorem rdFrom_some : ∀ (l : List UInt8) (i n : Nat) (r : List UInt8), i < 10 → rdFrom i l = some (n, r) → n < 2 ^ (64 - 7 * i) ∧ (0 < i → 0 < n) ∧ l = varF (10 - i) n ++ r
  | [], _, _, _, _, h => by simp [rdFrom] at h
  | c :: l, i, n, r, hi, h => by
    unfold rdFrom at h
    rw [if_neg (by omega)] at h
    have hc := c.toNat_lt
    by_cases h128 : 128 ≤ c.toNat
    · rw [if_pos h128] at h
      cases h1 : rdFrom (i + 1) l with
      | none => rw [h1] at h; cases h
      | some x =>
        obtain ⟨m, q⟩ := x
        rw [h1] at h
        simp only [Option.map_some, Option.some.injEq, Prod.mk.injEq] at h
        obtain ⟨rfl, rfl⟩ := h
        have h10 : i + 1 < 10 := by
          rcases Nat.lt_or_ge (i + 1) 10 with h | h
          · exact h
          · cases l with
            | nil => simp [rdFrom] at h1
            | cons d l => unfold rdFrom at h1; rw [if_pos h] at h1; cases h1
        obtain ⟨a1, a2, a3⟩ := rdFrom_some l (i + 1) m q h10 h1
        have hm := a2 (by omega)
        have e : 2 ^ (64 - 7 * i) = 2 ^ (64 - 7 * (i + 1)) * 128 := by
          rw [show 64 - 7 * i = (64 - 7 * (i + 1)) + 7 by omega, Nat.pow_add]
        refine ⟨by rw [e]; omega, fun _ => by omega, ?_⟩
        rw [show 10 - i = (10 - (i + 1)) + 1 by omega, varF, if_neg (by omega), show (c.toNat % 128 + 128 * m) / 128 = m by omega, a3, List.cons_append]
        congr 1
        apply UInt8.toNat.inj
        simp; omega
    · rw [if_neg h128] at h
      split at h
      · cases h
      · rename_i hb
        simp only [Option.some.injEq, Prod.mk.injEq] at h
        obtain ⟨rfl, rfl⟩ := h
        refine ⟨?_, fun h0 => ?_, ?_⟩
        · by_cases h9 : i = 9
          · subst h9
            have : c.toNat ≤ 1 := by
              rcases Nat.lt_or_ge 1 c.toNat with h | h
              · exact absurd (.inr ⟨rfl, h⟩) hb
              · exact h
            omega
          · have : 2 ^ 8 ≤ 2 ^ (64 - 7 * i) := Nat.pow_le_pow_right (by decide) (by omega)
            omega
        · rcases Nat.eq_zero_or_pos c.toNat with h | h
          · exact absurd (.inl ⟨h0, h⟩) hb
          · exact h
        · rw [show 10 - i = (9 - i) + 1 by omega, varF, if_pos (by omega)]
          simp
theorem rdFrom_varF : ∀ (k i n : Nat) (r : List UInt8), i + k = 10 → 0 < k → n < 2 ^ (64 - 7 * i) → (0 < i → 0 < n) → rdFrom i (varF k n ++ r) = some (n, r)
  | 0, _, _, _, _, h, _, _ => absurd h (by decide)
  | k + 1, i, n, r, hik, _, hn, h0 => by
    unfold varF
    by_cases hlt : n < 128
    · rw [if_pos hlt]
      have e : (UInt8.ofNat n).toNat = n := by simp; omega
      simp only [List.cons_append, List.nil_append, rdFrom]
      rw [if_neg (by omega), e, if_neg (by omega), if_neg]
      rintro (⟨h1, h2⟩ | ⟨h1, h2⟩)
      · have := h0 h1; omega
      · subst h1; simp at hn; omega
    · rw [if_neg hlt]
      have e : (UInt8.ofNat (n % 128 + 128)).toNat = n % 128 + 128 := by simp; omega
      simp only [List.cons_append, rdFrom]
      have hk : 0 < k := by
        rcases Nat.eq_zero_or_pos k with rfl | h
        · have : i = 9 := by omega
          subst this; simp at hn; omega
        · exact h
      have e2 : 2 ^ (64 - 7 * i) = 2 ^ (64 - 7 * (i + 1)) * 128 := by
        rw [show 64 - 7 * i = (64 - 7 * (i + 1)) + 7 by omega, Nat.pow_add]
      rw [if_neg (by omega), e, if_pos (by omega), rdFrom_varF k (i + 1) (n / 128) r (by omega) hk (by rw [e2] at hn; exact Nat.div_lt_of_lt_mul (by rw [Nat.mul_comm]; exact hn)) (fun _ => by omega)]
      simp only [Option.map_some, Option.some.injEq, Prod.mk.injEq, and_true]
      omega
theorem readB_iff {l : List UInt8} {n : Nat} {r : List UInt8} : readB l = some (n, r) ↔ n < 18446744073709551616 ∧ l = varF 10 n ++ r := by
  constructor
  · intro h
    obtain ⟨a, _, b⟩ := rdFrom_some l 0 n r (by decide) h
    exact ⟨a, b⟩
  · rintro ⟨a, rfl⟩
    exact rdFrom_varF 10 0 n r rfl (by decide) a (fun h => absurd h (by decide))
theorem cutB_iff {l s r : List UInt8} : cutB l = some (s, r) ↔ s.length < 18446744073709551616 ∧ l = textB s ++ r := by
  unfold cutB textB
  constructor
  · intro h
    cases hr : readB l with
    | none => rw [hr] at h; cases h
    | some x =>
      obtain ⟨n, q⟩ := x
      obtain ⟨a, b⟩ := readB_iff.1 hr
      rw [hr] at h
      simp only at h
      split at h
      · rename_i hn
        simp only [Option.some.injEq, Prod.mk.injEq] at h
        obtain ⟨rfl, rfl⟩ := h
        have e : (q.take n).length = n := by simp; omega
        rw [e, List.append_assoc, List.take_append_drop]
        exact ⟨a, b⟩
      · cases h
  · rintro ⟨a, rfl⟩
    have := (readB_iff (l := varF 10 s.length ++ s ++ r) (n := s.length) (r := s ++ r)).2 ⟨a, by rw [List.append_assoc]⟩
    rw [this]
    simp
theorem rdNum_ok {most : Nat} {st : Rdr} (h : (rdNum most st).2.2 = true) : st.2 = true ∧ (rdNum most st).1 ≤ most ∧ (rdNum most st).1 < 18446744073709551616 ∧ st.1 = varF 10 (rdNum most st).1 ++ (rdNum most st).2.1 := by
  unfold rdNum at h ⊢
  cases hr : readB st.1 with
  | none => rw [hr] at h; cases h
  | some x =>
    obtain ⟨n, r⟩ := x
    rw [hr] at h
    simp only at h ⊢
    by_cases hc : st.2 = true ∧ n ≤ most
    · rw [if_pos hc]
      obtain ⟨a, b⟩ := readB_iff.1 hr
      exact ⟨hc.1, hc.2, a, b⟩
    · rw [if_neg hc] at h; cases h
theorem rdText_ok {st : Rdr} (h : (rdText st).2.2 = true) : st.2 = true ∧ (rdText st).1.length < 18446744073709551616 ∧ st.1 = textB (rdText st).1 ++ (rdText st).2.1 := by
  unfold rdText at h ⊢
  cases hr : cutB st.1 with
  | none => rw [hr] at h; cases h
  | some x =>
    obtain ⟨s, r⟩ := x
    rw [hr] at h
    obtain ⟨a, b⟩ := cutB_iff.1 hr
    exact ⟨h, a, b⟩
theorem rdNum_put {most n : Nat} {r : List UInt8} (h : n ≤ most) (hb : n < 18446744073709551616) : rdNum most (varF 10 n ++ r, true) = (n, (r, true)) := by
  unfold rdNum
  rw [readB_iff.2 ⟨hb, rfl⟩]
  simp [h]
theorem rdText_put {s r : List UInt8} (h : s.length < 18446744073709551616) : rdText (textB s ++ r, true) = (s, (r, true)) := by
  unfold rdText
  rw [cutB_iff.2 ⟨h, rfl⟩]

/-- The order of some bytes. -/
def getOrd (l : List UInt8) : Option (Nat × List UInt8 × List UInt8 × Nat × Nat) :=
  let a := rdNum 60 (l, true)
  let b := rdText a.2
  let c := rdText b.2
  let d := rdNum 999 c.2
  let e := rdNum 1099511627776 d.2
  if e.2.2 = true ∧ e.2.1 = [] ∧ ordCheck a.1 b.1 c.1 d.1 e.1 = 0 then some (a.1, b.1, c.1, d.1, e.1) else none

theorem getOrd_some {l : List UInt8} {id qty amt : Nat} {ref sku : List UInt8} (h : getOrd l = some (id, ref, sku, qty, amt)) : ordCheck id ref sku qty amt = 0 ∧ putOrd id ref sku qty amt = l := by
  unfold getOrd at h
  simp only at h
  split at h
  · rename_i hc
    obtain ⟨h1, h2, h3⟩ := hc
    simp only [Option.some.injEq, Prod.mk.injEq] at h
    obtain ⟨rfl, rfl, rfl, rfl, rfl⟩ := h
    refine ⟨h3, ?_⟩
    rw [putOrd, if_pos h3]
    obtain ⟨k1, _, _, e1⟩ := rdNum_ok h1
    obtain ⟨k2, _, _, e2⟩ := rdNum_ok k1
    obtain ⟨k3, _, e3⟩ := rdText_ok k2
    obtain ⟨k4, _, e4⟩ := rdText_ok k3
    obtain ⟨_, _, _, e5⟩ := rdNum_ok k4
    simp only [Int.toNat_natCast]
    simp only at e5
    rw [h2] at e1
    rw [e1] at e2
    rw [e2] at e3
    rw [e3] at e4
    rw [e4] at e5
    refine Eq.trans ?_ e5.symm
    simp
  · cases h
theorem getOrd_put {id qty amt : Int} {ref sku : List UInt8} (h : ordCheck id ref sku qty amt = 0) : getOrd (putOrd id ref sku qty amt) = some (id.toNat, ref, sku, qty.toNat, amt.toNat) := by
  obtain ⟨a1, a2, a3, a4, a5, a6, _, _, a9, a10, _, _⟩ := ordCheck_ok h
  rw [putOrd, if_pos h]
  have e : varF 10 id.toNat ++ textB ref ++ textB sku ++ varF 10 qty.toNat ++ varF 10 amt.toNat = varF 10 id.toNat ++ (textB ref ++ (textB sku ++ (varF 10 qty.toNat ++ (varF 10 amt.toNat ++ [])))) := by simp
  rw [e]
  unfold getOrd
  simp only
  rw [rdNum_put (by omega) (by omega)]
  simp only
  rw [rdText_put (by omega)]
  simp only
  rw [rdText_put (by omega)]
  simp only
  rw [rdNum_put (by omega) (by omega)]
  simp only
  rw [rdNum_put (by omega) (by omega)]
  simp only
  rw [show ((id.toNat : Nat) : Int) = id by omega, show ((qty.toNat : Nat) : Int) = qty by omega, show ((amt.toNat : Nat) : Int) = amt by omega, if_pos ⟨by trivial, by trivial, h⟩]

theorem rdNum_len (most : Nat) (st : Rdr) : (rdNum most st).2.1.length ≤ st.1.length := by
  unfold rdNum
  cases hr : readB st.1 with
  | none => simp
  | some x =>
    obtain ⟨n, r⟩ := x
    have := readB_len hr
    simp only
    split <;> simp <;> omega
theorem rdText_len (st : Rdr) : (rdText st).2.1.length ≤ st.1.length ∧ (rdText st).1.length ≤ st.1.length := by
  unfold rdText
  cases hr : cutB st.1 with
  | none => simp
  | some x =>
    obtain ⟨s, r⟩ := x
    have := (cutB_iff.1 hr).2
    rw [this]
    unfold textB
    simp; omega

def retGet (o : Option (Nat × List UInt8 × List UInt8 × Nat × Nat)) : Value := match o with
  | some (id, ref, sku, qty, amt) => .tuple #[.agg #[.int .i64 id, .string ⟨ref.toArray⟩, .string ⟨sku.toArray⟩, .int .i64 qty, .int .i64 amt], .int .i64 0]
  | none => .tuple #[.agg #[.int .i64 0, .string ⟨#[]⟩, .string ⟨#[]⟩, .int .i64 0, .int .i64 0], .int .i64 10]

set_option maxHeartbeats 4000000 in
set_option maxRecDepth 100000 in
theorem get_any (l : List UInt8) (w : World) (hl : l.length ≤ maxLen) : Calls Tryd.prog 66 #[.string ⟨l.toArray⟩] w fun e w' => e = .returned (retGet (getOrd l)) ∧ Below w.heap.size w w' := by
  have hG : getOrd l = getOrd l := rfl
  conv at hG => rhs; unfold getOrd
  simp only at hG
  have N1 := fun b w => number_any b l true 60 60 rfl w hl (by decide)
  have k1 := rdNum_len 60 (l, true)
  rcases h1 : rdNum 60 (l, true) with ⟨n1, s1, o1⟩
  rw [h1] at hG N1 k1
  clear h1
  simp only at hG N1 k1
  have N2 := fun b w => rtext_any b s1 o1 w (by omega)
  have k2 := rdText_len (s1, o1)
  rcases h2 : rdText (s1, o1) with ⟨t2, s2, o2⟩
  rw [h2] at hG N2 k2
  clear h2
  simp only at hG N2 k2
  have N3 := fun b w => rtext_any b s2 o2 w (by omega)
  have k3 := rdText_len (s2, o2)
  rcases h3 : rdText (s2, o2) with ⟨t3, s3, o3⟩
  rw [h3] at hG N3 k3
  clear h3
  simp only at hG N3 k3
  have N4 := fun b w => number_any b s3 o3 999 999 rfl w (by omega) (by decide)
  have k4 := rdNum_len 999 (s3, o3)
  rcases h4 : rdNum 999 (s3, o3) with ⟨n4, s4, o4⟩
  rw [h4] at hG N4 k4
  clear h4
  simp only at hG N4 k4
  have N5 := fun b w => number_any b s4 o4 1099511627776 1099511627776 rfl w (by omega) (by decide)
  rcases h5 : rdNum 1099511627776 (s4, o4) with ⟨n5, s5, o5⟩
  rw [h5] at hG N5
  clear h5
  simp only at hG N5
  have C := fun w => ordCheck_any n1 t2 t3 n4 n5 w (by omega) (by omega)
  by_cases hgood : o5 = true ∧ s5 = [] ∧ ordCheck n1 t2 t3 n4 n5 = 0
  · have HQ := Lib.hid (hG.trans (if_pos hgood))
    obtain ⟨rfl, rfl, hc0⟩ := hgood
    rw [hc0] at C
    clear hG hc0 k1 k2 k3 k4
    go_enter Tryd.func66, Tryd.ntmps66
    go_wp2_with fail
    with_reducible refine (N1 _ _ (by first | omega | (simp; done) | (simp; omega)) (by go_simp) (by go_simp) (by go_simp) (by go_simp)).mono ?_
    rintro e w1 ⟨rfl, ha⟩; obtain ⟨hc, hf⟩ := ha.cells; have hz := ha.size; (try simp at hz); have c0 := ha.c0; have c1 := ha.c1; have f0 := ha.f0; have f1 := ha.f1; have hzA : w.heap.size < w1.heap.size := (by omega); have hzB : w.heap.size + 1 < w1.heap.size := (by omega); have hzA2 := Nat.le_of_lt hzA; have hzB2 := Nat.le_of_lt hzB
    go_wp2_with fail
    with_reducible refine (N2 _ _ (by first | omega | (simp; done) | (simp; omega)) (by go_simp) (by go_simp) (by go_simp) (by go_simp)).mono ?_
    rintro e w1 ⟨rfl, ha⟩; obtain ⟨hc, hf⟩ := ha.cells; have hz := ha.size; (try simp at hz); have c0 := ha.c0; have c1 := ha.c1; have f0 := ha.f0; have f1 := ha.f1; have hzA : w.heap.size < w1.heap.size := (by omega); have hzB : w.heap.size + 1 < w1.heap.size := (by omega); have hzA2 := Nat.le_of_lt hzA; have hzB2 := Nat.le_of_lt hzB
    go_wp2_with fail
    with_reducible refine (N3 _ _ (by first | omega | (simp; done) | (simp; omega)) (by go_simp) (by go_simp) (by go_simp) (by go_simp)).mono ?_
    rintro e w1 ⟨rfl, ha⟩; obtain ⟨hc, hf⟩ := ha.cells; have hz := ha.size; (try simp at hz); have c0 := ha.c0; have c1 := ha.c1; have f0 := ha.f0; have f1 := ha.f1; have hzA : w.heap.size < w1.heap.size := (by omega); have hzB : w.heap.size + 1 < w1.heap.size := (by omega); have hzA2 := Nat.le_of_lt hzA; have hzB2 := Nat.le_of_lt hzB
    go_wp2_with fail
    with_reducible refine (N4 _ _ (by first | omega | (simp; done) | (simp; omega)) (by go_simp) (by go_simp) (by go_simp) (by go_simp)).mono ?_
    rintro e w1 ⟨rfl, ha⟩; obtain ⟨hc, hf⟩ := ha.cells; have hz := ha.size; (try simp at hz); have c0 := ha.c0; have c1 := ha.c1; have f0 := ha.f0; have f1 := ha.f1; have hzA : w.heap.size < w1.heap.size := (by omega); have hzB : w.heap.size + 1 < w1.heap.size := (by omega); have hzA2 := Nat.le_of_lt hzA; have hzB2 := Nat.le_of_lt hzB
    go_wp2_with fail
    with_reducible refine (N5 _ _ (by first | omega | (simp; done) | (simp; omega)) (by go_simp) (by go_simp) (by go_simp) (by go_simp)).mono ?_
    rintro e w1 ⟨rfl, ha⟩; obtain ⟨hc, hf⟩ := ha.cells; have hz := ha.size; (try simp at hz); have c0 := ha.c0; have c1 := ha.c1; have f0 := ha.f0; have f1 := ha.f1; have hzA : w.heap.size < w1.heap.size := (by omega); have hzB : w.heap.size + 1 < w1.heap.size := (by omega); have hzA2 := Nat.le_of_lt hzA; have hzB2 := Nat.le_of_lt hzB
    go_wp2_with (go_at_call 56; go_must ((with_reducible refine (C _).mono ?_); rintro e w1 ⟨rfl, hb⟩; obtain ⟨hc, hf⟩ := bcell hb; have hz := hb.size; (try simp at hz); (try have hzT := Nat.lt_of_succ_le hz); have hzA : w.heap.size < w1.heap.size := (by omega); have hzB : w.heap.size + 1 < w1.heap.size := (by omega); have hzA2 := Nat.le_of_lt hzA; have hzB2 := Nat.le_of_lt hzB))
    have hR : Below (w.heap.size + 1) (w.alloc (.cells #[.int .i64 0, .string ⟨#[]⟩, .string ⟨#[]⟩, .int .i64 0, .int .i64 0] 60)) w1 := (by with_reducible (repeat (first | exact Below.refl _ _ | refine Below.drew ?_ | refine below_drewN ?_ _ | refine Below.alloc ?_ (by first | (simp; done) | omega | (simp; omega)) _ | refine Below.setCell ?_ (by first | (simp; done) | omega | (simp; omega)) _ | refine Below.trans ?_ (Below.mono (by assumption) (by first | (simp; done) | omega | (simp; omega))) | refine After.below (by assumption) ?_ (by omega) (by first | (simp; done) | omega | (simp; omega)))))
    obtain ⟨hcR, hfR⟩ := bcell hR
    clear hc hf
    refine bodyPost_ret (v := .tuple #[.agg #[.int .i64 n1, .string ⟨t2.toArray⟩, .string ⟨t3.toArray⟩, .int .i64 n4, .int .i64 n5], .int .i64 0]) ?_ rfl ⟨by rw [HQ.out]; rfl, ?_⟩
    · (simp only [results, Tryd.results66]; go_simp)
    · exact (by with_reducible (repeat (first | exact Below.refl _ _ | refine Below.drew ?_ | refine below_drewN ?_ _ | refine Below.alloc ?_ (by first | (simp; done) | omega | (simp; omega)) _ | refine Below.setCell ?_ (by first | (simp; done) | omega | (simp; omega)) _ | refine Below.trans ?_ (Below.mono (by assumption) (by first | (simp; done) | omega | (simp; omega))) | refine After.below (by assumption) ?_ (by omega) (by first | (simp; done) | omega | (simp; omega)))))
  · have HQ := Lib.hid (hG.trans (if_neg hgood))
    clear hG
    by_cases ho : o5 = true
    · subst ho
      by_cases hs : s5 = []
      · subst hs
        have hc0 : (ordCheck n1 t2 t3 n4 n5 == 0) = false := by simp at hgood; simpa using hgood
        have hc1 : (ordCheck n1 t2 t3 n4 n5 != 0) = true := by simp at hgood; simpa using hgood
        clear hgood k1 k2 k3 k4
        go_enter Tryd.func66, Tryd.ntmps66
        go_wp2_with fail
        with_reducible refine (N1 _ _ (by first | omega | (simp; done) | (simp; omega)) (by go_simp) (by go_simp) (by go_simp) (by go_simp)).mono ?_
        rintro e w1 ⟨rfl, ha⟩; obtain ⟨hc, hf⟩ := ha.cells; have hz := ha.size; (try simp at hz); have c0 := ha.c0; have c1 := ha.c1; have f0 := ha.f0; have f1 := ha.f1; have hzA : w.heap.size < w1.heap.size := (by omega); have hzB : w.heap.size + 1 < w1.heap.size := (by omega); have hzA2 := Nat.le_of_lt hzA; have hzB2 := Nat.le_of_lt hzB
        go_wp2_with fail
        with_reducible refine (N2 _ _ (by first | omega | (simp; done) | (simp; omega)) (by go_simp) (by go_simp) (by go_simp) (by go_simp)).mono ?_
        rintro e w1 ⟨rfl, ha⟩; obtain ⟨hc, hf⟩ := ha.cells; have hz := ha.size; (try simp at hz); have c0 := ha.c0; have c1 := ha.c1; have f0 := ha.f0; have f1 := ha.f1; have hzA : w.heap.size < w1.heap.size := (by omega); have hzB : w.heap.size + 1 < w1.heap.size := (by omega); have hzA2 := Nat.le_of_lt hzA; have hzB2 := Nat.le_of_lt hzB
        go_wp2_with fail
        with_reducible refine (N3 _ _ (by first | omega | (simp; done) | (simp; omega)) (by go_simp) (by go_simp) (by go_simp) (by go_simp)).mono ?_
        rintro e w1 ⟨rfl, ha⟩; obtain ⟨hc, hf⟩ := ha.cells; have hz := ha.size; (try simp at hz); have c0 := ha.c0; have c1 := ha.c1; have f0 := ha.f0; have f1 := ha.f1; have hzA : w.heap.size < w1.heap.size := (by omega); have hzB : w.heap.size + 1 < w1.heap.size := (by omega); have hzA2 := Nat.le_of_lt hzA; have hzB2 := Nat.le_of_lt hzB
        go_wp2_with fail
        with_reducible refine (N4 _ _ (by first | omega | (simp; done) | (simp; omega)) (by go_simp) (by go_simp) (by go_simp) (by go_simp)).mono ?_
        rintro e w1 ⟨rfl, ha⟩; obtain ⟨hc, hf⟩ := ha.cells; have hz := ha.size; (try simp at hz); have c0 := ha.c0; have c1 := ha.c1; have f0 := ha.f0; have f1 := ha.f1; have hzA : w.heap.size < w1.heap.size := (by omega); have hzB : w.heap.size + 1 < w1.heap.size := (by omega); have hzA2 := Nat.le_of_lt hzA; have hzB2 := Nat.le_of_lt hzB
        go_wp2_with fail
        with_reducible refine (N5 _ _ (by first | omega | (simp; done) | (simp; omega)) (by go_simp) (by go_simp) (by go_simp) (by go_simp)).mono ?_
        rintro e w1 ⟨rfl, ha⟩; obtain ⟨hc, hf⟩ := ha.cells; have hz := ha.size; (try simp at hz); have c0 := ha.c0; have c1 := ha.c1; have f0 := ha.f0; have f1 := ha.f1; have hzA : w.heap.size < w1.heap.size := (by omega); have hzB : w.heap.size + 1 < w1.heap.size := (by omega); have hzA2 := Nat.le_of_lt hzA; have hzB2 := Nat.le_of_lt hzB
        go_wp2_with (go_at_call 56; go_must ((with_reducible refine (C _).mono ?_); rintro e w1 ⟨rfl, hb⟩; obtain ⟨hc, hf⟩ := bcell hb; have hz := hb.size; (try simp at hz); (try have hzT := Nat.lt_of_succ_le hz); have hzA : w.heap.size < w1.heap.size := (by omega); have hzB : w.heap.size + 1 < w1.heap.size := (by omega); have hzA2 := Nat.le_of_lt hzA; have hzB2 := Nat.le_of_lt hzB))
        have hR : Below (w.heap.size + 1) (w.alloc (.cells #[.int .i64 0, .string ⟨#[]⟩, .string ⟨#[]⟩, .int .i64 0, .int .i64 0] 60)) w1 := (by with_reducible (repeat (first | exact Below.refl _ _ | refine Below.drew ?_ | refine below_drewN ?_ _ | refine Below.alloc ?_ (by first | (simp; done) | omega | (simp; omega)) _ | refine Below.setCell ?_ (by first | (simp; done) | omega | (simp; omega)) _ | refine Below.trans ?_ (Below.mono (by assumption) (by first | (simp; done) | omega | (simp; omega))) | refine After.below (by assumption) ?_ (by omega) (by first | (simp; done) | omega | (simp; omega)))))
        obtain ⟨hcR, hfR⟩ := bcell hR
        clear hc hf
        refine bodyPost_ret (v := .tuple #[.agg #[.int .i64 0, .string ⟨#[]⟩, .string ⟨#[]⟩, .int .i64 0, .int .i64 0], .int .i64 10]) ?_ rfl ⟨by rw [HQ.out]; rfl, ?_⟩
        · (simp only [results, Tryd.results66]; go_simp)
        · exact (by with_reducible (repeat (first | exact Below.refl _ _ | refine Below.drew ?_ | refine below_drewN ?_ _ | refine Below.alloc ?_ (by first | (simp; done) | omega | (simp; omega)) _ | refine Below.setCell ?_ (by first | (simp; done) | omega | (simp; omega)) _ | refine Below.trans ?_ (Below.mono (by assumption) (by first | (simp; done) | omega | (simp; omega))) | refine After.below (by assumption) ?_ (by omega) (by first | (simp; done) | omega | (simp; omega)))))
      · have hne : s5.isEmpty = false := by cases s5 <;> simp_all
        have hne2 : (s5 == []) = false := by cases s5 <;> simp_all
        clear hgood k1 k2 k3 k4 hs
        go_enter Tryd.func66, Tryd.ntmps66
        go_wp2_with fail
        with_reducible refine (N1 _ _ (by first | omega | (simp; done) | (simp; omega)) (by go_simp) (by go_simp) (by go_simp) (by go_simp)).mono ?_
        rintro e w1 ⟨rfl, ha⟩; obtain ⟨hc, hf⟩ := ha.cells; have hz := ha.size; (try simp at hz); have c0 := ha.c0; have c1 := ha.c1; have f0 := ha.f0; have f1 := ha.f1; have hzA : w.heap.size < w1.heap.size := (by omega); have hzB : w.heap.size + 1 < w1.heap.size := (by omega); have hzA2 := Nat.le_of_lt hzA; have hzB2 := Nat.le_of_lt hzB
        go_wp2_with fail
        with_reducible refine (N2 _ _ (by first | omega | (simp; done) | (simp; omega)) (by go_simp) (by go_simp) (by go_simp) (by go_simp)).mono ?_
        rintro e w1 ⟨rfl, ha⟩; obtain ⟨hc, hf⟩ := ha.cells; have hz := ha.size; (try simp at hz); have c0 := ha.c0; have c1 := ha.c1; have f0 := ha.f0; have f1 := ha.f1; have hzA : w.heap.size < w1.heap.size := (by omega); have hzB : w.heap.size + 1 < w1.heap.size := (by omega); have hzA2 := Nat.le_of_lt hzA; have hzB2 := Nat.le_of_lt hzB
        go_wp2_with fail
        with_reducible refine (N3 _ _ (by first | omega | (simp; done) | (simp; omega)) (by go_simp) (by go_simp) (by go_simp) (by go_simp)).mono ?_
        rintro e w1 ⟨rfl, ha⟩; obtain ⟨hc, hf⟩ := ha.cells; have hz := ha.size; (try simp at hz); have c0 := ha.c0; have c1 := ha.c1; have f0 := ha.f0; have f1 := ha.f1; have hzA : w.heap.size < w1.heap.size := (by omega); have hzB : w.heap.size + 1 < w1.heap.size := (by omega); have hzA2 := Nat.le_of_lt hzA; have hzB2 := Nat.le_of_lt hzB
        go_wp2_with fail
        with_reducible refine (N4 _ _ (by first | omega | (simp; done) | (simp; omega)) (by go_simp) (by go_simp) (by go_simp) (by go_simp)).mono ?_
        rintro e w1 ⟨rfl, ha⟩; obtain ⟨hc, hf⟩ := ha.cells; have hz := ha.size; (try simp at hz); have c0 := ha.c0; have c1 := ha.c1; have f0 := ha.f0; have f1 := ha.f1; have hzA : w.heap.size < w1.heap.size := (by omega); have hzB : w.heap.size + 1 < w1.heap.size := (by omega); have hzA2 := Nat.le_of_lt hzA; have hzB2 := Nat.le_of_lt hzB
        go_wp2_with fail
        with_reducible refine (N5 _ _ (by first | omega | (simp; done) | (simp; omega)) (by go_simp) (by go_simp) (by go_simp) (by go_simp)).mono ?_
        rintro e w1 ⟨rfl, ha⟩; obtain ⟨hc, hf⟩ := ha.cells; have hz := ha.size; (try simp at hz); have c0 := ha.c0; have c1 := ha.c1; have f0 := ha.f0; have f1 := ha.f1; have hzA : w.heap.size < w1.heap.size := (by omega); have hzB : w.heap.size + 1 < w1.heap.size := (by omega); have hzA2 := Nat.le_of_lt hzA; have hzB2 := Nat.le_of_lt hzB
        go_wp2_with fail
        have hR : Below (w.heap.size + 1) (w.alloc (.cells #[.int .i64 0, .string ⟨#[]⟩, .string ⟨#[]⟩, .int .i64 0, .int .i64 0] 60)) w1 := (by with_reducible (repeat (first | exact Below.refl _ _ | refine Below.drew ?_ | refine below_drewN ?_ _ | refine Below.alloc ?_ (by first | (simp; done) | omega | (simp; omega)) _ | refine Below.setCell ?_ (by first | (simp; done) | omega | (simp; omega)) _ | refine Below.trans ?_ (Below.mono (by assumption) (by first | (simp; done) | omega | (simp; omega))) | refine After.below (by assumption) ?_ (by omega) (by first | (simp; done) | omega | (simp; omega)))))
        obtain ⟨hcR, hfR⟩ := bcell hR
        clear hc hf
        refine bodyPost_ret (v := .tuple #[.agg #[.int .i64 0, .string ⟨#[]⟩, .string ⟨#[]⟩, .int .i64 0, .int .i64 0], .int .i64 10]) ?_ rfl ⟨by rw [HQ.out]; rfl, ?_⟩
        · (simp only [results, Tryd.results66]; go_simp)
        · exact (by with_reducible (repeat (first | exact Below.refl _ _ | refine Below.drew ?_ | refine below_drewN ?_ _ | refine Below.alloc ?_ (by first | (simp; done) | omega | (simp; omega)) _ | refine Below.setCell ?_ (by first | (simp; done) | omega | (simp; omega)) _ | refine Below.trans ?_ (Below.mono (by assumption) (by first | (simp; done) | omega | (simp; omega))) | refine After.below (by assumption) ?_ (by omega) (by first | (simp; done) | omega | (simp; omega)))))
    · have ho : o5 = false := by simpa using ho
      subst ho
      clear hgood k1 k2 k3 k4
      go_enter Tryd.func66, Tryd.ntmps66
      go_wp2_with fail
      with_reducible refine (N1 _ _ (by first | omega | (simp; done) | (simp; omega)) (by go_simp) (by go_simp) (by go_simp) (by go_simp)).mono ?_
      rintro e w1 ⟨rfl, ha⟩; obtain ⟨hc, hf⟩ := ha.cells; have hz := ha.size; (try simp at hz); have c0 := ha.c0; have c1 := ha.c1; have f0 := ha.f0; have f1 := ha.f1; have hzA : w.heap.size < w1.heap.size := (by omega); have hzB : w.heap.size + 1 < w1.heap.size := (by omega); have hzA2 := Nat.le_of_lt hzA; have hzB2 := Nat.le_of_lt hzB
      go_wp2_with fail
      with_reducible refine (N2 _ _ (by first | omega | (simp; done) | (simp; omega)) (by go_simp) (by go_simp) (by go_simp) (by go_simp)).mono ?_
      rintro e w1 ⟨rfl, ha⟩; obtain ⟨hc, hf⟩ := ha.cells; have hz := ha.size; (try simp at hz); have c0 := ha.c0; have c1 := ha.c1; have f0 := ha.f0; have f1 := ha.f1; have hzA : w.heap.size < w1.heap.size := (by omega); have hzB : w.heap.size + 1 < w1.heap.size := (by omega); have hzA2 := Nat.le_of_lt hzA; have hzB2 := Nat.le_of_lt hzB
      go_wp2_with fail
      with_reducible refine (N3 _ _ (by first | omega | (simp; done) | (simp; omega)) (by go_simp) (by go_simp) (by go_simp) (by go_simp)).mono ?_
      rintro e w1 ⟨rfl, ha⟩; obtain ⟨hc, hf⟩ := ha.cells; have hz := ha.size; (try simp at hz); have c0 := ha.c0; have c1 := ha.c1; have f0 := ha.f0; have f1 := ha.f1; have hzA : w.heap.size < w1.heap.size := (by omega); have hzB : w.heap.size + 1 < w1.heap.size := (by omega); have hzA2 := Nat.le_of_lt hzA; have hzB2 := Nat.le_of_lt hzB
      go_wp2_with fail
      with_reducible refine (N4 _ _ (by first | omega | (simp; done) | (simp; omega)) (by go_simp) (by go_simp) (by go_simp) (by go_simp)).mono ?_
      rintro e w1 ⟨rfl, ha⟩; obtain ⟨hc, hf⟩ := ha.cells; have hz := ha.size; (try simp at hz); have c0 := ha.c0; have c1 := ha.c1; have f0 := ha.f0; have f1 := ha.f1; have hzA : w.heap.size < w1.heap.size := (by omega); have hzB : w.heap.size + 1 < w1.heap.size := (by omega); have hzA2 := Nat.le_of_lt hzA; have hzB2 := Nat.le_of_lt hzB
      go_wp2_with fail
      with_reducible refine (N5 _ _ (by first | omega | (simp; done) | (simp; omega)) (by go_simp) (by go_simp) (by go_simp) (by go_simp)).mono ?_
      rintro e w1 ⟨rfl, ha⟩; obtain ⟨hc, hf⟩ := ha.cells; have hz := ha.size; (try simp at hz); have c0 := ha.c0; have c1 := ha.c1; have f0 := ha.f0; have f1 := ha.f1; have hzA : w.heap.size < w1.heap.size := (by omega); have hzB : w.heap.size + 1 < w1.heap.size := (by omega); have hzA2 := Nat.le_of_lt hzA; have hzB2 := Nat.le_of_lt hzB
      go_wp2_with fail
      have hR : Below (w.heap.size + 1) (w.alloc (.cells #[.int .i64 0, .string ⟨#[]⟩, .string ⟨#[]⟩, .int .i64 0, .int .i64 0] 60)) w1 := (by with_reducible (repeat (first | exact Below.refl _ _ | refine Below.drew ?_ | refine below_drewN ?_ _ | refine Below.alloc ?_ (by first | (simp; done) | omega | (simp; omega)) _ | refine Below.setCell ?_ (by first | (simp; done) | omega | (simp; omega)) _ | refine Below.trans ?_ (Below.mono (by assumption) (by first | (simp; done) | omega | (simp; omega))) | refine After.below (by assumption) ?_ (by omega) (by first | (simp; done) | omega | (simp; omega)))))
      obtain ⟨hcR, hfR⟩ := bcell hR
      clear hc hf
      refine bodyPost_ret (v := .tuple #[.agg #[.int .i64 0, .string ⟨#[]⟩, .string ⟨#[]⟩, .int .i64 0, .int .i64 0], .int .i64 10]) ?_ rfl ⟨by rw [HQ.out]; rfl, ?_⟩
      · (simp only [results, Tryd.results66]; go_simp)
      · exact (by with_reducible (repeat (first | exact Below.refl _ _ | refine Below.drew ?_ | refine below_drewN ?_ _ | refine Below.alloc ?_ (by first | (simp; done) | omega | (simp; omega)) _ | refine Below.setCell ?_ (by first | (simp; done) | omega | (simp; omega)) _ | refine Below.trans ?_ (Below.mono (by assumption) (by first | (simp; done) | omega | (simp; omega))) | refine After.below (by assumption) ?_ (by omega) (by first | (simp; done) | omega | (simp; omega)))))
end Go.Proofs.YtlfphfklcifgpaaDoor

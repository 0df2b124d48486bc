/-
  The plain law of entries: what is put is got, what is got is put so; conditions: none.
-/
import Derived.Test.YtlfphfklcifgpaaDoorEntGetR
import Derived.Test.YtlfphfklcifgpaaDoorEntSame2
import Derived.Test.YtlfphfklcifgpaaDoorRowFree
namespace Go.Proofs.YtlfphfklcifgpaaDoor
open Go.RowKit Go.Own

def varsB (A : List Nat) : List UInt8 := (A.map (varF 10)).flatten
theorem takeN_iff : ∀ {m : Nat} {l r : List UInt8} {A : List Nat}, takeN m l = some (A, r) ↔ A.length = m ∧ (∀ n ∈ A, n ≤ 1073741824) ∧ l = varsB A ++ r
  | 0, l, r, A => by
    simp only [takeN, Option.some.injEq, Prod.mk.injEq]
    constructor
    · rintro ⟨rfl, rfl⟩; simp [varsB]
    · rintro ⟨h1, -, h2⟩
      obtain rfl := List.length_eq_zero_iff.1 h1
      exact ⟨rfl, by simpa [varsB] using h2⟩
  | m + 1, l, r, A => by
    constructor
    · intro h
      cases hr : readB l with
      | none => rw [takeN_none hr] at h; cases h
      | some x =>
        obtain ⟨n, r'⟩ := x
        rw [takeN_some hr] at h
        split at h
        · rename_i hn
          cases ht : takeN m r' with
          | none => rw [ht] at h; cases h
          | some y =>
            obtain ⟨B, s⟩ := y
            rw [ht] at h
            simp only [Option.map_some, Option.some.injEq, Prod.mk.injEq] at h
            obtain ⟨rfl, rfl⟩ := h
            obtain ⟨h1, h2, h3⟩ := takeN_iff.1 ht
            refine ⟨by simp [h1], fun k hk => by rcases List.mem_cons.1 hk with rfl | hk; exact hn; exact h2 k hk, ?_⟩
            rw [(readB_iff.1 hr).2, h3]
            simp [varsB]
        · cases h
    · rintro ⟨h1, h2, h3⟩
      match A, h1 with
      | n :: B, h1 =>
        have hn := h2 n (by simp)
        have hr : readB l = some (n, varsB B ++ r) := readB_iff.2 ⟨by omega, by rw [h3]; simp [varsB]⟩
        rw [takeN_some hr, if_pos hn, takeN_iff.2 ⟨by simpa using h1, fun k hk => h2 k (by simp [hk]), rfl⟩]
        rfl
theorem numsN_iff {m : Nat} {l : List UInt8} {A : List Nat} : numsN m l = some A ↔ A.length = m ∧ (∀ n ∈ A, n ≤ 1073741824) ∧ l = varsB A := by
  constructor
  · intro h
    obtain ⟨h1, _, _⟩ := numsN_len h
    simpa using takeN_iff.1 h1
  · rintro ⟨h1, h2, h3⟩
    rw [numsN, show takeN m l = some (A, []) from takeN_iff.2 ⟨h1, h2, by simpa using h3⟩]
    rfl
theorem numsR_take : ∀ {m j : Nat} {l r : List UInt8} {A : List Nat}, takeN m l = some (A, r) → numsR (m + j) l = A ++ numsR j r
  | 0, j, l, r, A, h => by
    simp only [takeN, Option.some.injEq, Prod.mk.injEq] at h
    obtain ⟨rfl, rfl⟩ := h
    simp
  | m + 1, j, l, r, A, h => by
    cases hr : readB l with
    | none => rw [takeN_none hr] at h; cases h
    | some x =>
      obtain ⟨n, r'⟩ := x
      rw [takeN_some hr] at h
      split at h
      · rename_i hn
        cases ht : takeN m r' with
        | none => rw [ht] at h; cases h
        | some y =>
          obtain ⟨B, s⟩ := y
          rw [ht] at h
          simp only [Option.map_some, Option.some.injEq, Prod.mk.injEq] at h
          obtain ⟨rfl, rfl⟩ := h
          rw [show m + 1 + j = (m + j) + 1 by omega, numsR_some hr, if_pos hn, numsR_take ht]
          rfl
      · cases h
/-- The four kinds of an entry that may be. -/
theorem checkE_kinds {x : EntS} (h : checkE x = 0) : (x.k = 1 ∧ ordCheck x.id x.ref x.sku x.qty x.amt = 0) ∨ (x.k = 2 ∧ keyOk x.o 0 = true) ∨ (x.k = 3 ∧ keyOk x.o x.d = true ∧ (x.c = 1 ∨ x.c = 2)) ∨ (x.k = 4 ∧ okStmt x.p x.q x.rs = true) := by
  unfold checkE at h
  rcases five x.k with hk | hk | hk | hk | ⟨h1, h2, h3, h4⟩
  · simp [hk] at h; exact .inl ⟨hk, h⟩
  · simp [hk] at h; exact .inr (.inl ⟨hk, h⟩)
  · simp [hk] at h; exact .inr (.inr (.inl ⟨hk, h.1, by have := h.2; omega⟩))
  · simp [hk] at h; exact .inr (.inr (.inr ⟨hk, h⟩))
  · simp [h1, h2, h3, h4] at h
theorem putE_read {x : EntS} (h : checkE x = 0) (z : List UInt8) : readB (putE x ++ z) = some (x.k.toNat, bodyE x ++ z) ∧ 1 ≤ x.k ∧ x.k ≤ 4 := by
  have hk : 1 ≤ x.k ∧ x.k ≤ 4 := by rcases checkE_kinds h with h | h | h | h <;> omega
  exact ⟨readB_iff.2 ⟨by omega, by rw [putE_ok h]; simp⟩, hk⟩
/-- What is got is put so. -/
theorem getEP_some {l : List UInt8} {x : EntS} (h : getEP l = some x) : checkE x = 0 ∧ putE x = l ∧ plainE x = x := by
  unfold getEP at h
  cases hr : readB l with
  | none => rw [hr] at h; cases h
  | some y =>
    obtain ⟨k, r⟩ := y
    rw [hr] at h
    simp only at h
    obtain ⟨-, hl⟩ := readB_iff.1 hr
    by_cases k1 : k = 1
    · subst k1
      rw [if_pos rfl] at h
      cases ho : getOrd r with
      | none => rw [ho] at h; cases h
      | some z =>
        obtain ⟨id, ref, sku, qty, amt⟩ := z
        rw [ho] at h
        simp only [Option.some.injEq] at h
        subst h
        obtain ⟨h1, h2⟩ := getOrd_some ho
        have hc : checkE ⟨1, id, ref, sku, qty, amt, 0, 0, 0, 0, 0, []⟩ = 0 := h1
        exact ⟨hc, by rw [putE_ok hc, hl, ← h2]; rfl, rfl⟩
    rw [if_neg k1] at h
    by_cases k2 : k = 2
    · subst k2
      rw [if_pos rfl] at h
      cases hn : numsN 1 r with
      | none => rw [hn] at h; cases h
      | some A =>
        rw [hn] at h
        simp only [finE] at h
        split at h
        · rename_i hc
          simp only [Option.some.injEq] at h
          subst h
          obtain ⟨hA, -, hv⟩ := numsN_iff.1 hn
          obtain ⟨n, rfl⟩ : ∃ n, A = [n] := by match A, hA with | [n], _ => exact ⟨n, rfl⟩
          exact ⟨hc, by rw [putE_ok hc, hl, hv]; simp [bodyE, varsB], rfl⟩
        · cases h
    rw [if_neg k2] at h
    by_cases k3 : k = 3
    · subst k3
      rw [if_pos rfl] at h
      cases hn : numsN 3 r with
      | none => rw [hn] at h; cases h
      | some A =>
        rw [hn] at h
        simp only [finE] at h
        split at h
        · rename_i hc
          simp only [Option.some.injEq] at h
          subst h
          obtain ⟨hA, -, hv⟩ := numsN_iff.1 hn
          obtain ⟨a, b, c, rfl⟩ : ∃ a b c, A = [a, b, c] := by match A, hA with | [a, b, c], _ => exact ⟨a, b, c, rfl⟩
          exact ⟨hc, by rw [putE_ok hc, hl, hv]; simp [bodyE, varsB], rfl⟩
        · cases h
    rw [if_neg k3] at h
    by_cases k4 : k = 4
    · subst k4
      rw [if_pos rfl] at h
      cases ho : getP r with
      | none => rw [ho] at h; cases h
      | some z =>
        obtain ⟨p, q, rs⟩ := z
        rw [ho] at h
        simp only [Option.some.injEq] at h
        subst h
        obtain ⟨h1, h2⟩ := getP_iff.1 ho
        have hc : checkE ⟨4, 0, [], [], 0, 0, 0, 0, 0, p, q, rs⟩ = 0 := by simp [checkE, h1]
        exact ⟨hc, by rw [putE_ok hc, hl, ← h2]; rfl, rfl⟩
    · rw [if_neg k4] at h; cases h
theorem getER_some {l : List UInt8} {x : EntS} (h : getER l = some x) : checkE x = 0 ∧ putE x = l ∧ plainE x = x := by
  unfold getER at h
  generalize (numsR 4 l).getD 0 0 = a at *
  generalize (numsR 4 l).getD 1 0 = b at *
  generalize (numsR 4 l).getD 2 0 = c at *
  generalize (numsR 4 l).getD 3 0 = d at *
  generalize (rd3 (readB l)).2.1 = r at *
  cases hw : rawE a b c d r with
  | none => rw [hw] at h; cases h
  | some y =>
    rw [hw] at h
    simp only [ifE] at h
    split at h
    · rename_i hc
      cases h
      refine ⟨hc.1, hc.2, ?_⟩
      unfold rawE at hw
      split at hw
      · split at hw
        · cases hw; rfl
        · cases hw
      · split at hw
        · cases hw; rfl
        · split at hw
          · cases hw; rfl
          · split at hw
            · split at hw
              · cases hw; rfl
              · cases hw
            · rename_i a1 a2 a3 a4
              cases hw
              unfold plainE zeroE
              rw [if_neg (by simp; omega), if_neg (by simp; omega), if_neg (by simp; omega), if_neg (by simp; omega)]
    · cases h
theorem plain_fields {x : EntS} (h : plainE x = x) : (x.k = 1 → x = ⟨1, x.id, x.ref, x.sku, x.qty, x.amt, 0, 0, 0, 0, 0, []⟩) ∧ (x.k = 2 → x = ⟨2, 0, [], [], 0, 0, x.o, 0, 0, 0, 0, []⟩) ∧ (x.k = 3 → x = ⟨3, 0, [], [], 0, 0, x.o, x.d, x.c, 0, 0, []⟩) ∧
    (x.k = 4 → x = ⟨4, 0, [], [], 0, 0, 0, 0, 0, x.p, x.q, x.rs⟩) := by
  refine ⟨fun hk => ?_, fun hk => ?_, fun hk => ?_, fun hk => ?_⟩ <;> (conv => lhs; rw [← h]) <;> simp [plainE, hk, zeroE]
theorem key_nats {o d : Int} (h : keyOk o d = true) : ((o.toNat : Nat) : Int) = o ∧ ((d.toNat : Nat) : Int) = d ∧ o.toNat ≤ 1073741824 ∧ d.toNat ≤ 1073741824 := by
  have := keyOk_in h
  refine ⟨?_, ?_, ?_, ?_⟩ <;> omega
theorem getEP_put {x : EntS} (h : checkE x = 0) (hp : plainE x = x) : getEP (putE x) = some x := by
  obtain ⟨hr, -⟩ := putE_read h []
  rw [List.append_nil, List.append_nil] at hr
  obtain ⟨f1, f2, f3, f4⟩ := plain_fields hp
  unfold getEP
  rw [hr]
  simp only
  rcases checkE_kinds h with ⟨hk, h1⟩ | ⟨hk, h1⟩ | ⟨hk, h1, h2⟩ | ⟨hk, h1⟩
  · have hb : bodyE x = putOrd x.id x.ref x.sku x.qty x.amt := by simp [bodyE, hk]
    rw [hk, hb, getOrd_put h1]
    obtain ⟨a1, _, a3, _, a5, _⟩ := ordCheck_ok h1
    simp only [show (1 : Int).toNat = 1 from rfl, if_true]
    conv => rhs; rw [f1 hk]
    rw [show ((x.id.toNat : Nat) : Int) = x.id by omega, show ((x.qty.toNat : Nat) : Int) = x.qty by omega, show ((x.amt.toNat : Nat) : Int) = x.amt by omega]
  · obtain ⟨e1, _, e3, _⟩ := key_nats h1
    have hb : bodyE x = varsB [x.o.toNat] := by simp [bodyE, hk, varsB]
    have hx := f2 hk
    rw [hk, hb, show numsN 1 (varsB [x.o.toNat]) = some [x.o.toNat] from numsN_iff.2 ⟨rfl, fun n hn => by obtain rfl := List.mem_singleton.1 hn; exact e3, rfl⟩]
    simp only [show (2 : Int).toNat = 2 from rfl, show ¬ (2 : Nat) = 1 by decide, if_true, if_false, List.getD_cons_zero, e1, finE]
    rw [← hx, if_pos h]
  · obtain ⟨e1, e2, e3, e4⟩ := key_nats h1
    have ec : ((x.c.toNat : Nat) : Int) = x.c ∧ x.c.toNat ≤ 1073741824 := by omega
    have hb : bodyE x = varsB [x.o.toNat, x.d.toNat, x.c.toNat] := by simp [bodyE, hk, varsB]
    have hx := f3 hk
    rw [hk, hb, show numsN 3 (varsB [x.o.toNat, x.d.toNat, x.c.toNat]) = some [x.o.toNat, x.d.toNat, x.c.toNat] from numsN_iff.2 ⟨rfl, fun n hn => by simp only [List.mem_cons, List.not_mem_nil, or_false] at hn; rcases hn with rfl | rfl | rfl; exact e3; exact e4; exact ec.2, rfl⟩]
    simp only [show (3 : Int).toNat = 3 from rfl, show ¬ (3 : Nat) = 1 by decide, show ¬ (3 : Nat) = 2 by decide, if_true, if_false, List.getD_cons_zero, List.getD_cons_succ, e1, e2, ec.1, finE]
    rw [← hx, if_pos h]
  · have hb : bodyE x = putStmt x.p x.q x.rs := by simp [bodyE, hk]
    rw [hk, hb, getP_iff.2 ⟨h1, rfl⟩]
    simp only [show (4 : Int).toNat = 4 from rfl, show ¬ (4 : Nat) = 1 by decide, show ¬ (4 : Nat) = 2 by decide, show ¬ (4 : Nat) = 3 by decide, if_true, if_false]
    rw [← f4 hk]
theorem getER_put {x : EntS} (h : checkE x = 0) (hp : plainE x = x) : getER (putE x) = some x := by
  obtain ⟨hr, -⟩ := putE_read h []
  rw [List.append_nil, List.append_nil] at hr
  obtain ⟨f1, f2, f3, f4⟩ := plain_fields hp
  have hif : ∀ y, y = some x → ifE (putE x) y = some x := fun y hy => by rw [hy]; exact if_pos ⟨h, rfl⟩
  unfold getER
  refine hif _ ?_
  have hrd : (rd3 (readB (putE x))).2.1 = bodyE x := by rw [hr]; rfl
  rw [hrd]
  rcases checkE_kinds h with ⟨hk, h1⟩ | ⟨hk, h1⟩ | ⟨hk, h1, h2⟩ | ⟨hk, h1⟩
  · have hb : bodyE x = putOrd x.id x.ref x.sku x.qty x.amt := by simp [bodyE, hk]
    have ht : takeN 1 (putE x) = some ([1], bodyE x) := takeN_iff.2 ⟨rfl, by simp, by rw [putE_ok h, hk]; simp [varsB]⟩
    rw [show 4 = 1 + 3 from rfl, numsR_take ht]
    obtain ⟨a1, _, a3, _, a5, _⟩ := ordCheck_ok h1
    simp only [List.cons_append, List.nil_append, List.getD_cons_zero, rawE, if_true]
    rw [hb, getOrd_put h1]
    simp only
    conv => rhs; rw [f1 hk]
    rw [show ((x.id.toNat : Nat) : Int) = x.id by omega, show ((x.qty.toNat : Nat) : Int) = x.qty by omega, show ((x.amt.toNat : Nat) : Int) = x.amt by omega]
  · obtain ⟨e1, _, e3, _⟩ := key_nats h1
    have ht : takeN 2 (putE x) = some ([2, x.o.toNat], []) := takeN_iff.2 ⟨rfl, fun n hn => by simp only [List.mem_cons, List.not_mem_nil, or_false] at hn; rcases hn with rfl | rfl; decide; exact e3, by rw [putE_ok h, hk]; simp [varsB, bodyE, hk]⟩
    rw [show 4 = 2 + 2 from rfl, numsR_take ht]
    simp only [List.cons_append, List.nil_append, List.getD_cons_zero, List.getD_cons_succ, rawE, show ¬ (2 : Nat) = 1 by decide, if_true, if_false, e1]
    rw [← f2 hk]
  · obtain ⟨e1, e2, e3, e4⟩ := key_nats h1
    have ec : ((x.c.toNat : Nat) : Int) = x.c ∧ x.c.toNat ≤ 1073741824 := by omega
    have ht : takeN 4 (putE x) = some ([3, x.o.toNat, x.d.toNat, x.c.toNat], []) := takeN_iff.2 ⟨rfl, fun n hn => by simp only [List.mem_cons, List.not_mem_nil, or_false] at hn; rcases hn with rfl | rfl | rfl | rfl; decide; exact e3; exact e4; exact ec.2, by rw [putE_ok h, hk]; simp [varsB, bodyE, hk]⟩
    rw [show 4 = 4 + 0 from rfl, numsR_take ht]
    simp only [List.cons_append, List.nil_append, List.getD_cons_zero, List.getD_cons_succ, rawE, show ¬ (3 : Nat) = 1 by decide, show ¬ (3 : Nat) = 2 by decide, if_true, if_false, e1, e2, ec.1]
    rw [← f3 hk]
  · have hb : bodyE x = putStmt x.p x.q x.rs := by simp [bodyE, hk]
    have ht : takeN 1 (putE x) = some ([4], bodyE x) := takeN_iff.2 ⟨rfl, by simp, by rw [putE_ok h, hk]; simp [varsB]⟩
    rw [show 4 = 1 + 3 from rfl, numsR_take ht]
    simp only [List.cons_append, List.nil_append, List.getD_cons_zero, rawE, show ¬ (4 : Nat) = 1 by decide, show ¬ (4 : Nat) = 2 by decide, show ¬ (4 : Nat) = 3 by decide, if_true, if_false]
    rw [hb, getR_iff.2 ⟨h1, rfl⟩]
    simp only
    rw [← f4 hk]
theorem getE_eq (l : List UInt8) : getER l = getEP l := by
  cases h : getEP l with
  | some x =>
    obtain ⟨h1, h2, h3⟩ := getEP_some h
    rw [← h2]; exact getER_put h1 h3
  | none =>
    cases h' : getER l with
    | none => rfl
    | some y =>
      obtain ⟨h1, h2, h3⟩ := getER_some h'
      have := getEP_put h1 h3
      rw [h2, h] at this
      cases this
/-- The bytes of an entry are no other's with something behind them. -/
theorem putE_free {x y : EntS} {r r' : List UInt8} (h : checkE x = 0) (h' : checkE y = 0) (e : putE x ++ r = putE y ++ r') : r = r' := by
  obtain ⟨a1, a2⟩ := putE_read h r
  obtain ⟨b1, b2⟩ := putE_read h' r'
  rw [e, b1] at a1
  simp only [Option.some.injEq, Prod.mk.injEq] at a1
  obtain ⟨hk, hb⟩ := a1
  have hk' : x.k = y.k := by omega
  rcases checkE_kinds h with ⟨hk1, h1⟩ | ⟨hk1, h1⟩ | ⟨hk1, h1, h2⟩ | ⟨hk1, h1⟩
  · rcases checkE_kinds h' with ⟨hk2, g1⟩ | ⟨hk2, g1⟩ | ⟨hk2, g1, g2⟩ | ⟨hk2, g1⟩ <;> try omega
    simp only [bodyE, hk1, hk2, if_true] at hb
    exact putOrd_free h1 g1 hb.symm
  · rcases checkE_kinds h' with ⟨hk2, g1⟩ | ⟨hk2, g1⟩ | ⟨hk2, g1, g2⟩ | ⟨hk2, g1⟩ <;> try omega
    have c1 := key_nats h1
    have c2 := key_nats g1
    simp only [bodyE, hk1, hk2, show ¬ (2 : Int) = 1 by decide, if_true, if_false] at hb
    have r1 : readB (varF 10 x.o.toNat ++ r) = some (x.o.toNat, r) := readB_iff.2 ⟨by omega, rfl⟩
    have r2 : readB (varF 10 y.o.toNat ++ r') = some (y.o.toNat, r') := readB_iff.2 ⟨by omega, rfl⟩
    rw [hb, r1] at r2
    simp only [Option.some.injEq, Prod.mk.injEq] at r2
    exact r2.2
  · rcases checkE_kinds h' with ⟨hk2, g1⟩ | ⟨hk2, g1⟩ | ⟨hk2, g1, g2⟩ | ⟨hk2, g1⟩ <;> try omega
    have c1 := key_nats h1
    have c2 := key_nats g1
    simp only [bodyE, hk1, hk2, show ¬ (3 : Int) = 1 by decide, show ¬ (3 : Int) = 2 by decide, if_true, if_false] at hb
    have r1 : takeN 3 (varF 10 x.o.toNat ++ (varF 10 x.d.toNat ++ varF 10 x.c.toNat) ++ r) = some ([x.o.toNat, x.d.toNat, x.c.toNat], r) := takeN_iff.2 ⟨rfl, by simp; omega, by simp [varsB]⟩
    have r2 : takeN 3 (varF 10 y.o.toNat ++ (varF 10 y.d.toNat ++ varF 10 y.c.toNat) ++ r') = some ([y.o.toNat, y.d.toNat, y.c.toNat], r') := takeN_iff.2 ⟨rfl, by simp; omega, by simp [varsB]⟩
    rw [hb, r1] at r2
    simp only [Option.some.injEq, Prod.mk.injEq] at r2
    exact r2.2
  · rcases checkE_kinds h' with ⟨hk2, g1⟩ | ⟨hk2, g1⟩ | ⟨hk2, g1, g2⟩ | ⟨hk2, g1⟩ <;> try omega
    simp only [bodyE, hk1, hk2, show ¬ (4 : Int) = 1 by decide, show ¬ (4 : Int) = 2 by decide, show ¬ (4 : Int) = 3 by decide, if_false] at hb
    have r1 := rdAll_put h1 r
    have r2 := rdAll_put g1 r'
    rw [hb, r1] at r2
    simp only [Prod.mk.injEq] at r2
    exact r2.2.2.2.1
theorem getEP_cut {x : EntS} (h : checkE x = 0) {k : Nat} (hk : k < (putE x).length) : getEP ((putE x).take k) = none := by
  cases hg : getEP ((putE x).take k) with
  | none => rfl
  | some y =>
    obtain ⟨h1, h2, -⟩ := getEP_some hg
    have := putE_free (r := []) (r' := (putE x).drop k) h h1 (by rw [h2]; simp)
    have hl := congrArg List.length this
    simp at hl; omega
theorem getEP_behind {x : EntS} (h : checkE x = 0) {z : List UInt8} (hz : z ≠ []) : getEP (putE x ++ z) = none := by
  cases hg : getEP (putE x ++ z) with
  | none => rfl
  | some y =>
    obtain ⟨h1, h2, -⟩ := getEP_some hg
    exact absurd (putE_free (r := z) (r' := []) h h1 (by rw [h2]; simp)) hz
theorem plainE_twice (x : EntS) : plainE (plainE x) = plainE x := by
  obtain ⟨k, id, ref, sku, qty, amt, o, d, c, p, q, rs⟩ := x
  rcases five k with rfl | rfl | rfl | rfl | ⟨h1, h2, h3, h4⟩
  · rfl
  · rfl
  · rfl
  · rfl
  · simp [plainE, h1, h2, h3, h4, zeroE]
theorem plainE_check (x : EntS) : checkE (plainE x) = checkE x := by
  obtain ⟨k, id, ref, sku, qty, amt, o, d, c, p, q, rs⟩ := x
  rcases five k with rfl | rfl | rfl | rfl | ⟨h1, h2, h3, h4⟩
  · rfl
  · rfl
  · rfl
  · rfl
  · simp [plainE, h1, h2, h3, h4, zeroE, checkE]
theorem plainE_put (x : EntS) : putE (plainE x) = putE x := by
  unfold putE
  rw [plainE_check, plainE_k]
  by_cases h : checkE x = 0
  · rw [if_pos h, if_pos h]
    congr 1
    obtain ⟨k, id, ref, sku, qty, amt, o, d, c, p, q, rs⟩ := x
    rcases checkE_kinds h with ⟨hk, _⟩ | ⟨hk, _⟩ | ⟨hk, _⟩ | ⟨hk, _⟩ <;> (simp only at hk; subst hk; rfl)
  · rw [if_neg h, if_neg h]
theorem sameE_plain (x : EntS) : sameE x (plainE x) = true := by
  have : sameE x (plainE x) = sameE (plainE x) (plainE x) := by unfold sameE; rw [plainE_twice, plainE_k]
  rw [this, sameE_self]
end Go.Proofs.YtlfphfklcifgpaaDoor

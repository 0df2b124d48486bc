/-
  What the document's functions on bits compute, by walking their text: the same; conditions: none.
-/
import Derived.Test.YtlfphfklcifgpaaDoorBits2
import Derived.Deep.RegionWith
namespace Go.Proofs.YtlfphfklcifgpaaDoor
open Go.RowKit Go.Own

theorem varF_fuel : ∀ (k n : Nat), n < 128 ^ k → ∀ j, k ≤ j → 0 < k → varF j n = varF k n
  | 0, _, _, _, _, h => absurd h (by decide)
  | k + 1, n, h, 0, hj, _ => absurd hj (by omega)
  | k + 1, n, h, j + 1, hj, _ => by
    by_cases hn : n < 128
    · rw [varF, varF, if_pos hn, if_pos hn]
    · rw [varF, varF, if_neg hn, if_neg hn]
      have hk : 0 < k := by
        rcases Nat.eq_zero_or_pos k with rfl | h0
        · simp at h; omega
        · exact h0
      rw [Nat.pow_succ] at h
      rw [varF_fuel k (n / 128) (Nat.div_lt_of_lt_mul (by rw [Nat.mul_comm]; exact h)) j (by omega) hk]

theorem wrap_u8_in {x : Int} (h0 : 0 ≤ x) (h : x < 256) : IntKind.u8.wrap x = x := by
  simp only [IntKind.wrap, IntKind.bits, IntKind.signed]; simp; omega
theorem wrap_u64_in {x : Int} (h0 : 0 ≤ x) (h : x < 18446744073709551616) : IntKind.u64.wrap x = x := by
  simp only [IntKind.wrap, IntKind.bits, IntKind.signed]; simp; omega

set_option maxRecDepth 100000 in
theorem refVar_step (k : Nat) (N : Nat) (w : World) (hk : k ≤ 10) (hN : 128 ≤ N) (hw1 : IntKind.u64.wrap ((N : Int) / 128) = (N : Int) / 128)
    (ih : ∀ w, Calls Tryd.prog 84 #[.int .u64 ((N : Int) / 128)] w fun e w' => e = .returned (.string ⟨(varF k (N / 128)).toArray⟩) ∧ Below w.heap.size w w') :
    Calls Tryd.prog 84 #[.int .u64 N] w fun e w' => e = .returned (.string ⟨(varF (k + 1) N).toArray⟩) ∧ Below w.heap.size w w' := by
  have IH := Lib.hid ih
  clear ih
  have h1 : (128 : Int) ≤ (N : Int) := by omega
  have hs : 1 + (varF k (N / 128)).length ≤ 9223372036854775807 := by have := varF_len k (N / 128); omega
  have h2 : (N : Int).tmod 128 = (N : Int) % 128 := Int.tmod_eq_emod_of_nonneg (by omega)
  have h3 : IntKind.u8.wrap ((N : Int) % 128) = (N : Int) % 128 := wrap_u8_in (by omega) (by omega)
  have h4 : IntKind.u8.wrap ((N : Int) % 128 + 128) = (N : Int) % 128 + 128 := wrap_u8_in (by omega) (by omega)
  have hs1 := fun w a cap => run_string_one (P := Tryd.prog) Tryd.underlying23 Tryd.underlying5 Tryd.underlying9 w a cap
  go_enter Tryd.func84, Tryd.ntmps84
  go_wp2_with fail
  go_region_with (go_at_call 84; go_must (refine (IH.out _).mono ?_; rintro e w1 ⟨rfl, hb⟩; obtain ⟨hc, hf⟩ := bcell hb; have hz := hb.size; (try simp at hz); (try have hzT := Nat.lt_of_succ_le hz)))
  all_goals
    go_wp2_with fail
    go_ret
    exact ⟨ret_str (by rw [varF, if_neg (by omega)]; first | rfl | simp [UInt8.ofNat_add]), (by with_reducible (repeat (first | assumption | exact Below.refl _ _ | refine Below.drew ?_ | refine below_drewN ?_ _ | refine Below.alloc ?_ (by first | (simp; done) | omega | (simp; omega)) _ | refine Below.setCell ?_ (by first | (simp; done) | omega | (simp; omega)) _ | refine Below.trans ?_ (Below.mono (by assumption) (by first | (simp; done) | omega | (simp; omega))))))⟩

theorem refVar_low (k : Nat) (N : Nat) (w : World) (hN : N < 128) : Calls Tryd.prog 84 #[.int .u64 N] w fun e w' => e = .returned (.string ⟨(varF (k + 1) N).toArray⟩) ∧ Below w.heap.size w w' := by
  have h1 : (N : Int) < 128 := by omega
  have hs1 := fun w a cap => run_string_one (P := Tryd.prog) Tryd.underlying23 Tryd.underlying5 Tryd.underlying9 w a cap
  go_enter Tryd.func84, Tryd.ntmps84
  go_wp2_with fail
  go_ret
  exact ⟨ret_str (by rw [varF, if_pos hN]), (by with_reducible (repeat (first | assumption | exact Below.refl _ _ | refine Below.drew ?_ | refine below_drewN ?_ _ | refine Below.alloc ?_ (by first | (simp; done) | omega | (simp; omega)) _ | refine Below.setCell ?_ (by first | (simp; done) | omega | (simp; omega)) _ | refine Below.trans ?_ (Below.mono (by assumption) (by first | (simp; done) | omega | (simp; omega))))))⟩

theorem refVar_any : ∀ (k N : Nat) (w : World), k ≤ 9 → N < 18446744073709551616 → N < 128 ^ (k + 1) → Calls Tryd.prog 84 #[.int .u64 N] w fun e w' => e = .returned (.string ⟨(varF (k + 1) N).toArray⟩) ∧ Below w.heap.size w w'
  | 0, N, w, _, _, h => refVar_low 0 N w (by simpa using h)
  | k + 1, N, w, hk, hb, h => by
    by_cases hN : N < 128
    · exact refVar_low _ N w hN
    · refine refVar_step (k + 1) N w (by omega) (by omega) (wrap_u64_in (by omega) (by omega)) (fun w => ?_)
      have hlt : N / 128 < 128 ^ (k + 1) := Nat.div_lt_of_lt_mul (by rw [Nat.mul_comm]; rwa [Nat.pow_succ] at h)
      have := refVar_any k (N / 128) w (by omega) (by omega) hlt
      rwa [show (((N / 128 : Nat)) : Int) = (N : Int) / 128 by simp] at this
theorem refVar_ten (N : Nat) (w : World) (h : N < 18446744073709551616) : Calls Tryd.prog 84 #[.int .u64 N] w fun e w' => e = .returned (.string ⟨(varF 10 N).toArray⟩) ∧ Below w.heap.size w w' :=
  refVar_any 9 N w (by omega) h (by have : (18446744073709551616 : Nat) ≤ 128 ^ 10 := by decide
                                    omega)
theorem refText_any (l : List UInt8) (w : World) (hl : l.length ≤ 1099511627776) : Calls Tryd.prog 85 #[.string ⟨l.toArray⟩] w fun e w' => e = .returned (.string ⟨(textB l).toArray⟩) ∧ Below w.heap.size w w' := by
  have hV := fun w => refVar_ten l.length w (by omega)
  have hvl := varF_len 10 l.length
  have hs : (varF 10 l.length).length + l.length ≤ maxLen := by unfold maxLen; omega
  go_enter Tryd.func85, Tryd.ntmps85
  go_wp2_with (go_at_call 84; go_must (refine (hV _).mono ?_; rintro e w1 ⟨rfl, hb⟩))
  go_ret
  exact ⟨rfl, hb⟩

theorem valP_varF : ∀ (k n : Nat), 0 < k → n < 128 ^ k → valP (varF k n) = n
  | 0, _, h, _ => absurd h (by decide)
  | k + 1, n, _, h => by
    unfold varF
    by_cases hn : n < 128
    · rw [if_pos hn]; simp [valP]; omega
    · rw [if_neg hn]
      have hk : 0 < k := by
        rcases Nat.eq_zero_or_pos k with rfl | h0
        · simp at h; omega
        · exact h0
      rw [Nat.pow_succ] at h
      have hlt : n / 128 < 128 ^ k := Nat.div_lt_of_lt_mul (by rw [Nat.mul_comm]; exact h)
      simp only [valP, valP_varF k (n / 128) hk hlt]
      have : (UInt8.ofNat (n % 128 + 128)).toNat = n % 128 + 128 := by simp; omega
      rw [this]; omega
/-- The last byte of a number's bytes: not 0, if there are more. -/
theorem varF_last : ∀ (k n : Nat) (p : List UInt8) (c : UInt8), varF k n = p ++ [c] → p ≠ [] → c.toNat ≠ 0
  | 0, _, p, c, h, _ => by simp [varF] at h
  | k + 1, n, p, c, h, hp => by
    unfold varF at h
    by_cases hn : n < 128
    · rw [if_pos hn] at h
      cases p with
      | nil => exact absurd rfl hp
      | cons d r => simp at h
    · rw [if_neg hn] at h
      cases p with
      | nil => exact absurd rfl hp
      | cons d r =>
        simp only [List.cons_append, List.cons.injEq] at h
        cases r with
        | nil =>
          cases k with
          | zero => simp [varF] at h
          | succ k =>
            have h2 := h.2
            unfold varF at h2
            by_cases hm : n / 128 < 128
            · rw [if_pos hm] at h2
              simp at h2
              rw [← h2]; simp; omega
            · rw [if_neg hm] at h2
              simp only [List.nil_append, List.cons.injEq] at h2
              rw [← h2.1]; simp; omega
        | cons e r' => exact varF_last k (n / 128) (e :: r') c h.2 (by simp)
theorem varF_of_val : ∀ (p : List UInt8) (c : UInt8) (k : Nat), (∀ d ∈ p, 128 ≤ d.toNat) → c.toNat < 128 → (p ≠ [] → c.toNat ≠ 0) → p.length < k → varF k (valP (p ++ [c])) = p ++ [c]
  | [], c, k, _, hc, _, hk => by
    cases k with
    | zero => simp at hk
    | succ k => simp only [List.nil_append, valP]; rw [Nat.mod_eq_of_lt hc, varF, if_pos (by omega)]; simp
  | d :: p, c, k, h1, hc, h0, hk => by
    cases k with
    | zero => simp at hk
    | succ k =>
      have hd := h1 d List.mem_cons_self
      have hd2 := d.toNat_lt
      have ih := varF_of_val p c k (fun x hx => h1 x (List.mem_cons_of_mem _ hx)) hc (fun _ => h0 (by simp)) (by simp at hk; omega)
      have hpos : 0 < valP (p ++ [c]) := by
        rw [valP_snoc]
        have hc0 := h0 (by simp)
        have : 0 < (c.toNat % 128) * 128 ^ p.length := Nat.mul_pos (by omega) (Nat.pow_pos (by decide))
        omega
      simp only [List.cons_append, valP]
      rw [varF, if_neg (by omega), show (d.toNat % 128 + 128 * valP (p ++ [c])) / 128 = valP (p ++ [c]) by omega, ih]
      congr 1
      apply UInt8.toNat.inj
      simp; omega

/-- Are the first k + 1 bytes a number's? -/
theorem canon {l : List UInt8} {k : Nat} (hk : k < l.length) (h9 : k ≤ 9) (hp : ∀ c ∈ l.take k, 128 ≤ c.toNat) (hc : l[k].toNat < 128) :
    (varF 10 (valP (l.take (k + 1)) % 18446744073709551616) = l.take (k + 1)) ↔ ¬ ((0 < k ∧ l[k].toNat = 0) ∨ (k = 9 ∧ 1 < l[k].toNat)) := by
  have ht := take_snoc l k hk
  have hlen : (l.take k).length = k := by simp; omega
  have hv : valP (l.take (k + 1)) = valP (l.take k) + (l[k].toNat % 128) * 128 ^ k := by rw [ht, valP_snoc, hlen]
  have hlow := low_val l k (by omega)
  constructor
  · intro h hbad
    rcases hbad with ⟨h1, h2⟩ | ⟨h1, h2⟩
    · rw [ht] at h
      refine varF_last _ _ _ _ h ?_ h2
      intro e
      rw [e] at hlen; simp at hlen; omega
    · have h3 := valP_varF 10 (valP (l.take (k + 1)) % 18446744073709551616) (by decide) (Nat.lt_of_lt_of_le (Nat.mod_lt _ (by decide)) (by decide))
      rw [h] at h3
      have h4 := Nat.mod_lt (valP (l.take (k + 1))) (show 0 < 18446744073709551616 by decide)
      rw [← h3, hv, Nat.mod_eq_of_lt hc] at h4
      have h5 : 2 * 128 ^ 9 ≤ l[9].toNat * 128 ^ 9 := Nat.mul_le_mul_right _ (by subst h1; exact h2)
      subst h1
      have h6 : (128 : Nat) ^ 9 * 2 = 18446744073709551616 := by decide
      omega
  · intro hg
    have hf := low_fits hc (show k < 10 by omega) (fun h => hg (.inr h))
    have hlt : valP (l.take (k + 1)) < 18446744073709551616 := by
      rw [hv]
      by_cases h9' : k = 9
      · have hc1 : l[k].toNat ≤ 1 := by
          rcases Nat.lt_or_ge 1 l[k].toNat with h | h
          · exact absurd (.inr ⟨h9', h⟩) hg
          · exact h
        have e1 : l[k].toNat % 128 ≤ 1 := by omega
        have e2 : (l[k].toNat % 128) * 128 ^ k ≤ 1 * 128 ^ k := Nat.mul_le_mul_right _ e1
        have e3 : 128 ^ k + 1 * 128 ^ k ≤ 18446744073709551616 := by rw [h9']; decide
        omega
      · have e1 : (l[k].toNat % 128) * 128 ^ k ≤ 127 * 128 ^ k := Nat.mul_le_mul_right _ (by omega)
        have e2 : 128 ^ k ≤ 128 ^ 8 := Nat.pow_le_pow_right (by decide) (by omega)
        have e3 : 128 * (128 : Nat) ^ 8 < 18446744073709551616 := by decide
        omega
    rw [Nat.mod_eq_of_lt hlt, ht]
    refine varF_of_val _ _ _ hp hc (fun hne h0 => hg (.inl ⟨?_, h0⟩)) (by rw [hlen]; omega)
    rcases Nat.eq_zero_or_pos k with rfl | h
    · simp at hne
    · exact h

theorem wrap_u64_mod (x : Int) : IntKind.u64.wrap x = x % 18446744073709551616 := by
  simp only [IntKind.wrap, IntKind.bits, IntKind.signed]; simp
theorem canon_val {l : List UInt8} {k : Nat} (hk : k < l.length) (h9 : k ≤ 9) (hp : ∀ c ∈ l.take k, 128 ≤ c.toNat) (hc : l[k].toNat < 128) (hg : ¬ ((0 < k ∧ l[k].toNat = 0) ∨ (k = 9 ∧ 1 < l[k].toNat))) :
    ((valP (l.take (k + 1)) : Int) % 18446744073709551616) = ((valP (l.take k) + 128 ^ k * l[k].toNat : Nat) : Int) := by
  have h := (canon hk h9 hp hc).2 hg
  have h3 := valP_varF 10 (valP (l.take (k + 1)) % 18446744073709551616) (by decide) (Nat.lt_of_lt_of_le (Nat.mod_lt _ (by decide)) (by decide))
  rw [h] at h3
  have hlen : (l.take k).length = k := by simp; omega
  have hv : valP (l.take (k + 1)) = valP (l.take k) + (l[k].toNat % 128) * 128 ^ k := by rw [take_snoc l k hk, valP_snoc, hlen]
  rw [Nat.mod_eq_of_lt hc, Nat.mul_comm] at hv
  rw [← hv]
  omega
/-- The number read so far, from behind. -/
def Beh (q : List UInt8) (j : Nat) (m : Int) : Prop := m = ((valP (q.drop j) % 18446744073709551616 : Nat) : Int)
theorem Beh.step {l : List UInt8} {k j : Nat} {m : Int} (h : Beh (l.take (k + 1)) (j + 1) m) (hj : j ≤ k) (hk : k < l.length) :
    Beh (l.take (k + 1)) j (IntKind.u64.wrap (IntKind.u64.wrap (m * 128) + (l[j]'(by omega)).toNat % 128)) := by
  unfold Beh at *
  have e : (l.take (k + 1)).drop j = (l[j]'(by omega)) :: (l.take (k + 1)).drop (j + 1) := by
    rw [List.drop_eq_getElem_cons (by simp; omega)]; simp
  rw [e, h, wrap_u64_mod, wrap_u64_mod]
  simp only [valP]
  omega

set_option maxRecDepth 100000 in
set_option maxHeartbeats 1000000 in
theorem refRead_any (l : List UInt8) (w : World) (hl : l.length ≤ maxLen) : Calls Tryd.prog 69 #[.string ⟨l.toArray⟩] w fun e w' => e = .returned (retRead (readB l)) ∧ Below w.heap.size w w' := by
  unfold maxLen at hl
  go_enter Tryd.func69, Tryd.ntmps69
  go_wp2_with fail
  go_loop [5] (fun c => ∃ i : Nat, i ≤ l.length ∧ i ≤ 10 ∧ c = .int .i64 i ∧ (∀ c ∈ l.take i, 128 ≤ c.toNat)) (fun c => 10 - (intOf c).toNat)
  case atStart => exact ⟨0, by omega, by omega, rfl, by simp⟩
  case round =>
    obtain ⟨i, h1, h2, rfl, h3⟩ := hrel
    have H3 := Lib.hid h3
    clear h3
    by_cases hi : i < l.length ∧ i < 10
    · obtain ⟨hi1, hi2⟩ := hi
      have hlt : (i : Int) < (l.length : Int) := by omega
      have hl10 : (i : Int) < 10 := by omega
      by_cases hc : (l[i].toNat : Int) < 128
      · have HR := Lib.hid (read_low l i hi1 hi2 H3.out (by omega))
        have HC := Lib.hid (canon hi1 (by omega) H3.out (by omega))
        have hle : (i : Int) + 1 ≤ (l.length : Int) := by omega
        have g0 : (0 : Int) ≤ (i : Int) + 1 := by omega
        go_wp2_with fail
        go_loop [6, 7] (fun n c => ∃ (j : Nat) (m : Int), j ≤ i + 1 ∧ c = .int .i64 ((j : Int) - 1) ∧ n = .int .u64 m ∧ Beh (l.take (i + 1)) j m) (fun _ c => (intOf c + 1).toNat)
        case atStart => exact ⟨i + 1, 0, by omega, by go_num, rfl, by unfold Beh; rw [List.drop_eq_nil_of_le (by simp; omega)]; rfl⟩
        case round =>
          obtain ⟨j, m, hj, rfl, rfl, hB⟩ := hrel
          rcases j with _ | j
          · have HB := Lib.hid hB
            clear hB
            have HM := Lib.hid (show m = ((valP (l.take (i + 1)) % 18446744073709551616 : Nat) : Int) from HB.out)
            have hV := fun w => refVar_ten (valP (l.take (i + 1)) % 18446744073709551616) w (Nat.mod_lt _ (by decide))
            obtain rfl := HM.out
            clear HM HB
            rw [show (((0 : Nat) : Int) - 1) = (-1 : Int) from rfl]
            by_cases hz : (0 < i ∧ l[i].toNat = 0) ∨ (i = 9 ∧ 1 < l[i].toNat)
            · have HZ := Lib.hid (HR.out.trans (if_pos hz))
              have hne : (varF 10 (valP (l.take (i + 1)) % 18446744073709551616) == l.take (i + 1)) = false := by
                rw [beq_eq_false_iff_ne]; exact fun h => (HC.out.1 h) hz
              go_wp2_with fail
              refine region_later (by kernel_rfl) (by kernel_rfl) ?_
              repeat (first | go_big_quiet_step ((go_at_call 84; exact calls_later (Nat.le_refl _) (hV _))) | quiet_step ((go_at_call 84; exact calls_later (Nat.le_refl _) (hV _))))
              refine wpQuiet_nil ?_
              intro w1 hb
              obtain ⟨hc, hf⟩ := bcell hb
              go_wp2_with fail
              all_goals (go_ret3; rw [HZ.out]; exact ⟨rfl, (by with_reducible (repeat (first | assumption | exact Below.refl _ _ | refine Below.drew ?_ | refine below_drewN ?_ _ | refine Below.alloc ?_ (by first | (simp; done) | omega | (simp; omega)) _ | refine Below.setCell ?_ (by first | (simp; done) | omega | (simp; omega)) _ | refine Below.trans ?_ (Below.mono (by assumption) (by first | (simp; done) | omega | (simp; omega))))))⟩)
            · have HZ := Lib.hid (HR.out.trans (if_neg hz))
              have heq : (varF 10 (valP (l.take (i + 1)) % 18446744073709551616) == l.take (i + 1)) = true := by
                rw [beq_iff_eq]; exact HC.out.2 hz
              go_wp2_with fail
              refine region_later (by kernel_rfl) (by kernel_rfl) ?_
              repeat (first | go_big_quiet_step ((go_at_call 84; exact calls_later (Nat.le_refl _) (hV _))) | quiet_step ((go_at_call 84; exact calls_later (Nat.le_refl _) (hV _))))
              refine wpQuiet_nil ?_
              intro w1 hb
              obtain ⟨hc, hf⟩ := bcell hb
              have HT := Lib.hid (canon_val hi1 (by omega) H3.out (by omega) hz)
              go_wp2_with fail
              go_quiet (fail)
              go_wp2_with fail
              go_ret3
              rw [HZ.out]
              exact ⟨ret3 HT.out rfl, below_drewN hb _⟩
          · have HB := Lib.hid hB
            clear hB
            have hjl : (j : Int) < (l.length : Int) := by omega
            have hj1 : (((j + 1 : Nat)) : Int) - 1 = (j : Int) := by omega
            go_wp2_with fail
            go_round
            case rel => exact ⟨j, _, by omega, rfl, rfl, HB.out.step (by omega) hi1⟩
            case measure => simp [intOf] <;> omega
      · have hc' : (128 : Int) ≤ (l[i].toNat : Int) := by omega
        go_wp2_with fail
        go_round
        case rel => exact ⟨i + 1, by omega, by omega, by go_num, step_high H3.out hi1 (by omega)⟩
        case measure => simp [intOf] <;> omega
    · have HR := Lib.hid (read_out l i h1 h2 H3.out (by omega))
      go_wp2_with fail
      all_goals (go_ret3; rw [HR.out]; exact ⟨rfl, Below.refl _ _⟩)

theorem refCut_any (l : List UInt8) (w : World) (hl : l.length ≤ maxLen) : Calls Tryd.prog 89 #[.string ⟨l.toArray⟩] w fun e w' => e = .returned (retCut (cutB l)) ∧ Below w.heap.size w w' := by
  have hR := refRead_any l
  have hml : maxLen = 9223372036854775807 := rfl
  cases hr : readB l with
  | none =>
    have HQ := Lib.hid (show cutB l = none by simp [cutB, hr])
    have HR := Lib.hid hr
    clear hr hml
    go_enter Tryd.func89, Tryd.ntmps89
    go_wp2_with (go_at_call 69; go_must (refine (hR _ hl).mono ?_; rw [HR.out]; rintro e w1 ⟨rfl, hb⟩; dsimp only [retRead]))
    go_ret3
    rw [HQ.out]
    exact ⟨rfl, hb⟩
  | some x =>
    obtain ⟨n, r⟩ := x
    have HR := Lib.hid hr
    have hlen : r.length ≤ 9223372036854775807 := by have := readB_len hr; omega
    have HQ := Lib.hid (show cutB l = if n ≤ r.length then some (r.take n, r.drop n) else none by simp [cutB, hr])
    clear hr hml
    by_cases hn : n ≤ r.length
    · have HQ := Lib.hid (HQ.out.trans (if_pos hn))
      have hn1 : (n : Int) ≤ (r.length : Int) := by omega
      have hw : IntKind.i64.wrap (n : Int) = (n : Int) := IntWalk.i64_in _ (by omega)
      go_enter Tryd.func89, Tryd.ntmps89
      go_wp2_with (go_at_call 69; go_must (refine (hR _ hl).mono ?_; rw [HR.out]; rintro e w1 ⟨rfl, hb⟩; dsimp only [retRead]))
      go_quiet (fail)
      go_wp2_with fail
      go_ret3
      rw [HQ.out]
      exact ⟨rfl, below_drewN hb _⟩
    · have HQ := Lib.hid (HQ.out.trans (if_neg hn))
      have hn1 : (r.length : Int) < (n : Int) := by omega
      go_enter Tryd.func89, Tryd.ntmps89
      go_wp2_with (go_at_call 69; go_must (refine (hR _ hl).mono ?_; rw [HR.out]; rintro e w1 ⟨rfl, hb⟩; dsimp only [retRead]))
      go_ret3
      rw [HQ.out]
      exact ⟨rfl, hb⟩
end Go.Proofs.YtlfphfklcifgpaaDoor

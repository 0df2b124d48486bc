/-
  Sums, accounts, and whether a posting may be, by walking both texts; conditions: int64 in, int64 out.
-/
import Derived.Test.YthiokpjakiidjaaProg
import Derived.Test.YthiokpjakiidjaaTypes
import Derived.Test.YthiokpjakiidjaaOwn3
import Derived.Test.YthiokpjakiidjaaBkLaw
namespace Go.Proofs.Ythiokpjakiidjaa
open Go.RowKit Go.Own

def pstC (p : Pst) : List Value := [.string p.id, .int .i64 p.o, .int .i64 p.d, .int .i64 p.c, .int .i64 p.a]
def pstV (p : Pst) : Value := .agg (pstC p).toArray
theorem wrap_in {n : Int} (h : inI n = true) : IntKind.i64.wrap n = n := by
  have := inI_iff.1 h
  rw [IntKind.wrap_i64]; omega

set_option maxHeartbeats 4000000 in
theorem mAdd_any {a b : Int} (ha : inI a = true) (hb : inI b = true) (w : World) : Calls Try.prog 31 #[.int .i64 a, .int .i64 b] w fun e w' => e = .returned (.tuple #[.int .i64 (addI a b).1, .bool (addI a b).2]) ∧ Below w.heap.size w w' := by
  have h1 := inI_iff.1 ha
  have h2 := inI_iff.1 hb
  have HO := Own.start w
  have HQ := Lib.hid (show addI a b = addI a b from rfl)
  have w1 : IntKind.i64.wrap (9223372036854775807 - b) = if b < 0 then 9223372036854775807 - b - 18446744073709551616 else 9223372036854775807 - b := by rw [IntKind.wrap_i64]; split <;> omega
  have w2 : IntKind.i64.wrap (-9223372036854775808 - b) = if 0 < b then -9223372036854775808 - b + 18446744073709551616 else -9223372036854775808 - b := by rw [IntKind.wrap_i64]; split <;> omega
  by_cases b1 : 0 < b
  · have b2 : ¬ b < 0 := by omega
    rw [if_neg b2] at w1
    by_cases c : 9223372036854775807 - b < a
    · have e : addI a b = (0, false) := by unfold addI; rw [if_neg (by rw [inI_iff]; omega)]
      rw [e]
      clear HQ e ha hb w2
      go_enter Try.func31, Try.ntmps31
      go_wp2_with fail
      refine bodyPost_ret ?_ rfl ⟨rfl, HO.grown⟩
      (simp only [results, Try.results31]; go_simp)
    · have e : addI a b = (a + b, true) := by unfold addI; rw [if_pos (by rw [inI_iff]; omega)]
      have w3 : IntKind.i64.wrap (a + b) = a + b := by rw [IntKind.wrap_i64]; omega
      rw [e]
      clear HQ e ha hb w2
      go_enter Try.func31, Try.ntmps31
      go_wp2_with fail
      refine bodyPost_ret ?_ rfl ⟨rfl, HO.grown⟩
      (simp only [results, Try.results31]; go_simp)
  · by_cases b2 : b < 0
    · rw [if_neg b1] at w2
      by_cases c : a < -9223372036854775808 - b
      · have e : addI a b = (0, false) := by unfold addI; rw [if_neg (by rw [inI_iff]; omega)]
        rw [e]
        clear HQ e ha hb w1
        go_enter Try.func31, Try.ntmps31
        go_wp2_with fail
        refine bodyPost_ret ?_ rfl ⟨rfl, HO.grown⟩
        (simp only [results, Try.results31]; go_simp)
      · have e : addI a b = (a + b, true) := by unfold addI; rw [if_pos (by rw [inI_iff]; omega)]
        have w3 : IntKind.i64.wrap (a + b) = a + b := by rw [IntKind.wrap_i64]; omega
        rw [e]
        clear HQ e ha hb w1
        go_enter Try.func31, Try.ntmps31
        go_wp2_with fail
        refine bodyPost_ret ?_ rfl ⟨rfl, HO.grown⟩
        (simp only [results, Try.results31]; go_simp)
    · have e : addI a b = (a + b, true) := by unfold addI; rw [if_pos (by rw [inI_iff]; omega)]
      have w3 : IntKind.i64.wrap (a + b) = a + b := by rw [IntKind.wrap_i64]; omega
      rw [e]
      clear HQ e ha hb w1 w2
      go_enter Try.func31, Try.ntmps31
      go_wp2_with fail
      refine bodyPost_ret ?_ rfl ⟨rfl, HO.grown⟩
      (simp only [results, Try.results31]; go_simp)

set_option maxHeartbeats 4000000 in
theorem mSub_any {a b : Int} (ha : inI a = true) (hb : inI b = true) (w : World) : Calls Try.prog 32 #[.int .i64 a, .int .i64 b] w fun e w' => e = .returned (.tuple #[.int .i64 (subI a b).1, .bool (subI a b).2]) ∧ Below w.heap.size w w' := by
  have h1 := inI_iff.1 ha
  have h2 := inI_iff.1 hb
  have HO := Own.start w
  have w1 : b < 0 → IntKind.i64.wrap (9223372036854775807 + b) = 9223372036854775807 + b := fun _ => by rw [IntKind.wrap_i64]; omega
  have w2 : 0 < b → IntKind.i64.wrap (-9223372036854775808 + b) = -9223372036854775808 + b := fun _ => by rw [IntKind.wrap_i64]; omega
  by_cases b1 : b < 0
  · replace w1 := w1 b1
    have b2 : ¬ 0 < b := by omega
    by_cases c : 9223372036854775807 + b < a
    · have e : subI a b = (0, false) := by unfold subI; rw [if_neg (by rw [inI_iff]; omega)]
      rw [e]
      clear e ha hb w2
      go_enter Try.func32, Try.ntmps32
      go_wp2_with fail
      refine bodyPost_ret ?_ rfl ⟨rfl, HO.grown⟩
      (simp only [results, Try.results32]; go_simp)
    · have e : subI a b = (a - b, true) := by unfold subI; rw [if_pos (by rw [inI_iff]; omega)]
      have w3 : IntKind.i64.wrap (a - b) = a - b := by rw [IntKind.wrap_i64]; omega
      rw [e]
      clear e ha hb w2
      go_enter Try.func32, Try.ntmps32
      go_wp2_with fail
      refine bodyPost_ret ?_ rfl ⟨rfl, HO.grown⟩
      (simp only [results, Try.results32]; go_simp)
  · by_cases b2 : 0 < b
    · replace w2 := w2 b2
      by_cases c : a < -9223372036854775808 + b
      · have e : subI a b = (0, false) := by unfold subI; rw [if_neg (by rw [inI_iff]; omega)]
        rw [e]
        clear e ha hb w1
        go_enter Try.func32, Try.ntmps32
        go_wp2_with fail
        refine bodyPost_ret ?_ rfl ⟨rfl, HO.grown⟩
        (simp only [results, Try.results32]; go_simp)
      · have e : subI a b = (a - b, true) := by unfold subI; rw [if_pos (by rw [inI_iff]; omega)]
        have w3 : IntKind.i64.wrap (a - b) = a - b := by rw [IntKind.wrap_i64]; omega
        rw [e]
        clear e ha hb w1
        go_enter Try.func32, Try.ntmps32
        go_wp2_with fail
        refine bodyPost_ret ?_ rfl ⟨rfl, HO.grown⟩
        (simp only [results, Try.results32]; go_simp)
    · have e : subI a b = (a - b, true) := by unfold subI; rw [if_pos (by rw [inI_iff]; omega)]
      have w3 : IntKind.i64.wrap (a - b) = a - b := by rw [IntKind.wrap_i64]; omega
      rw [e]
      clear e ha hb w1 w2
      go_enter Try.func32, Try.ntmps32
      go_wp2_with fail
      refine bodyPost_ret ?_ rfl ⟨rfl, HO.grown⟩
      (simp only [results, Try.results32]; go_simp)

theorem wrap_cases {n : Int} (h : -18446744073709551616 ≤ n ∧ n ≤ 18446744073709551615) : (inI n = true ∧ IntKind.i64.wrap n = n) ∨ (9223372036854775807 < n ∧ IntKind.i64.wrap n = n - 18446744073709551616) ∨ (n < -9223372036854775808 ∧ IntKind.i64.wrap n = n + 18446744073709551616) := by
  rw [inI_iff, IntKind.wrap_i64]; omega

set_option maxHeartbeats 4000000 in
theorem rAdd_any {a b : Int} (ha : inI a = true) (hb : inI b = true) (w : World) : Calls Try.prog 33 #[.int .i64 a, .int .i64 b] w fun e w' => e = .returned (.tuple #[.int .i64 (addI a b).1, .bool (addI a b).2]) ∧ Below w.heap.size w w' := by
  have h1 := inI_iff.1 ha
  have h2 := inI_iff.1 hb
  have HO := Own.start w
  rcases wrap_cases (n := a + b) (by omega) with ⟨c, w1⟩ | ⟨c, w1⟩ | ⟨c, w1⟩
  · have e : addI a b = (a + b, true) := by unfold addI; rw [if_pos c]
    rw [e]
    have c := inI_iff.1 c
    clear e ha hb
    by_cases a1 : 0 ≤ a <;> by_cases b1 : 0 ≤ b <;> by_cases d1 : a + b < 0 <;> try omega
    all_goals
      have a2 : (a < 0) = ¬ (0 ≤ a) := by simp
      have b2 : (b < 0) = ¬ (0 ≤ b) := by simp
      have d2 : (0 ≤ a + b) = ¬ (a + b < 0) := by simp
      go_enter Try.func33, Try.ntmps33
      go_wp2_with fail
      refine bodyPost_ret ?_ rfl ⟨rfl, HO.grown⟩
      (simp only [results, Try.results33]; go_simp)
  · have e : addI a b = (0, false) := by unfold addI; rw [if_neg (by rw [inI_iff]; omega)]
    rw [e]
    have a1 : 0 ≤ a := by omega
    have b1 : 0 ≤ b := by omega
    have d1 : a + b - 18446744073709551616 < 0 := by omega
    clear e ha hb
    go_enter Try.func33, Try.ntmps33
    go_wp2_with fail
    refine bodyPost_ret ?_ rfl ⟨rfl, HO.grown⟩
    (simp only [results, Try.results33]; go_simp)
  · have e : addI a b = (0, false) := by unfold addI; rw [if_neg (by rw [inI_iff]; omega)]
    rw [e]
    have a1 : ¬ 0 ≤ a := by omega
    have a2 : a < 0 := by omega
    have b1 : b < 0 := by omega
    have d1 : 0 ≤ a + b + 18446744073709551616 := by omega
    clear e ha hb
    go_enter Try.func33, Try.ntmps33
    go_wp2_with fail
    refine bodyPost_ret ?_ rfl ⟨rfl, HO.grown⟩
    (simp only [results, Try.results33]; go_simp)

set_option maxHeartbeats 4000000 in
theorem rSub_any {a b : Int} (ha : inI a = true) (hb : inI b = true) (w : World) : Calls Try.prog 34 #[.int .i64 a, .int .i64 b] w fun e w' => e = .returned (.tuple #[.int .i64 (subI a b).1, .bool (subI a b).2]) ∧ Below w.heap.size w w' := by
  have h1 := inI_iff.1 ha
  have h2 := inI_iff.1 hb
  have HO := Own.start w
  rcases wrap_cases (n := a - b) (by omega) with ⟨c, w1⟩ | ⟨c, w1⟩ | ⟨c, w1⟩
  · have e : subI a b = (a - b, true) := by unfold subI; rw [if_pos c]
    rw [e]
    have c := inI_iff.1 c
    clear e ha hb
    by_cases a1 : 0 ≤ a <;> by_cases b1 : b < 0 <;> by_cases d1 : a - b < 0 <;> try omega
    all_goals
      have a2 : (a < 0) = ¬ (0 ≤ a) := by simp
      have b2 : (0 ≤ b) = ¬ (b < 0) := by simp
      have d2 : (0 ≤ a - b) = ¬ (a - b < 0) := by simp
      go_enter Try.func34, Try.ntmps34
      go_wp2_with fail
      refine bodyPost_ret ?_ rfl ⟨rfl, HO.grown⟩
      (simp only [results, Try.results34]; go_simp)
  · have e : subI a b = (0, false) := by unfold subI; rw [if_neg (by rw [inI_iff]; omega)]
    rw [e]
    have a1 : 0 ≤ a := by omega
    have b1 : b < 0 := by omega
    have d1 : a - b - 18446744073709551616 < 0 := by omega
    clear e ha hb
    go_enter Try.func34, Try.ntmps34
    go_wp2_with fail
    refine bodyPost_ret ?_ rfl ⟨rfl, HO.grown⟩
    (simp only [results, Try.results34]; go_simp)
  · have e : subI a b = (0, false) := by unfold subI; rw [if_neg (by rw [inI_iff]; omega)]
    rw [e]
    have a1 : ¬ 0 ≤ a := by omega
    have a2 : a < 0 := by omega
    have b0 : ¬ b < 0 := by omega
    have b1 : 0 ≤ b := by omega
    have d1 : 0 ≤ a - b + 18446744073709551616 := by omega
    clear e ha hb
    go_enter Try.func34, Try.ntmps34
    go_wp2_with fail
    refine bodyPost_ret ?_ rfl ⟨rfl, HO.grown⟩
    (simp only [results, Try.results34]; go_simp)

set_option maxHeartbeats 4000000 in
theorem acct_any (n : Int) (w : World) : Calls Try.prog 30 #[.int .i64 n] w fun e w' => e = .returned (.bool (acct n)) ∧ Below w.heap.size w w' := by
  have HO := Own.start w
  by_cases h1 : 0 ≤ n <;> by_cases h2 : n ≤ 4
  all_goals
    go_enter Try.func30, Try.ntmps30
    go_wp2_with fail
    go_ret
    exact ⟨by simp [acct, h1, h2], HO.grown⟩
end Go.Proofs.Ythiokpjakiidjaa

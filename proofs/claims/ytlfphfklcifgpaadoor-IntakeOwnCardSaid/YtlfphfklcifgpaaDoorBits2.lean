/-
  What bits.Read and its kin compute, by walking their text; conditions: none.
-/
import Derived.Test.YtlfphfklcifgpaaDoorBits
namespace Go.Proofs.YtlfphfklcifgpaaDoor
open Go.RowKit Go.Own

def rdFrom : Nat → List UInt8 → Option (Nat × List UInt8)
  | _, [] => none
  | i, c :: r => if 10 ≤ i then none else if 128 ≤ c.toNat then (rdFrom (i + 1) r).map (fun x => (c.toNat % 128 + 128 * x.1, x.2))
    else if (0 < i ∧ c.toNat = 0) ∨ (i = 9 ∧ 1 < c.toNat) then none else some (c.toNat, r)
def readB (l : List UInt8) : Option (Nat × List UInt8) := rdFrom 0 l
def valP : List UInt8 → Nat
  | [] => 0
  | c :: r => c.toNat % 128 + 128 * valP r
def retRead (o : Option (Nat × List UInt8)) : Value := match o with
  | some (n, r) => .tuple #[.int .u64 n, .string ⟨r.toArray⟩, .bool true]
  | none => .tuple #[.int .u64 0, .string ⟨#[]⟩, .bool false]

theorem valP_snoc (l : List UInt8) (c : UInt8) : valP (l ++ [c]) = valP l + (c.toNat % 128) * 128 ^ l.length := by
  induction l with
  | nil => simp [valP]
  | cons d r ih => simp only [List.cons_append, valP, ih, List.length_cons, Nat.pow_succ]; rw [Nat.mul_add]; simp only [Nat.add_assoc]; congr 2; rw [Nat.mul_comm 128, Nat.mul_assoc]
theorem valP_lt (l : List UInt8) : valP l < 128 ^ l.length := by
  induction l with
  | nil => simp [valP]
  | cons d r ih => simp only [valP, List.length_cons, Nat.pow_succ]; have := Nat.mod_lt d.toNat (show 0 < 128 by decide); omega
theorem rd_step (l : List UInt8) : ∀ (k i : Nat) (r : List UInt8), i ≤ k → k ≤ 10 → (∀ c ∈ l, 128 ≤ c.toNat) → l.length = k - i → rdFrom i (l ++ r) = (rdFrom k r).map (fun x => (valP l + 128 ^ l.length * x.1, x.2)) := by
  induction l with
  | nil => intro k i r _ _ _ h; have : k = i := by simp at h; omega
           subst this; simp [valP]
  | cons c l ih =>
    intro k i r h1 h2 h3 h4
    simp only [List.length_cons] at h4
    have hc := h3 c List.mem_cons_self
    simp only [List.cons_append, rdFrom]
    rw [if_neg (by omega), if_pos hc, ih k (i + 1) r (by omega) h2 (fun d hd => h3 d (List.mem_cons_of_mem _ hd)) (by omega)]
    cases rdFrom k r with
    | none => rfl
    | some x => simp only [Option.map_some, valP, List.length_cons, Nat.pow_succ]; congr 2; rw [Nat.mul_add, Nat.add_assoc, Nat.mul_comm (128 ^ l.length) 128, Nat.mul_assoc]
theorem read_at (l : List UInt8) (i : Nat) (h : i ≤ l.length) (hi : i ≤ 10) (hp : ∀ c ∈ l.take i, 128 ≤ c.toNat) : readB l = (rdFrom i (l.drop i)).map (fun x => (valP (l.take i) + 128 ^ i * x.1, x.2)) := by
  have := rd_step (l.take i) i 0 (l.drop i) (by omega) hi hp (by simp; omega)
  rw [List.take_append_drop, show (l.take i).length = i by simp; omega] at this
  exact this
theorem read_low (l : List UInt8) (i : Nat) (h : i < l.length) (hi : i < 10) (hp : ∀ c ∈ l.take i, 128 ≤ c.toNat) (hc : l[i].toNat < 128) :
    readB l = if (0 < i ∧ l[i].toNat = 0) ∨ (i = 9 ∧ 1 < l[i].toNat) then none else some (valP (l.take i) + 128 ^ i * l[i].toNat, l.drop (i + 1)) := by
  rw [read_at l i (by omega) (by omega) hp, List.drop_eq_getElem_cons h, rdFrom, if_neg (by omega), if_neg (by omega)]
  split <;> simp
theorem read_out (l : List UInt8) (i : Nat) (h : i ≤ l.length) (hi : i ≤ 10) (hp : ∀ c ∈ l.take i, 128 ≤ c.toNat) (he : i = l.length ∨ i = 10) : readB l = none := by
  rw [read_at l i h hi hp]
  rcases he with rfl | rfl
  · simp [rdFrom]
  · cases hd : l.drop 10 with
    | nil => simp [rdFrom]
    | cons c r => simp [rdFrom]
theorem wrap_u64 (X : Nat) (h : X < 18446744073709551616) : IntKind.u64.wrap (X : Int) = X := by
  simp only [IntKind.wrap, IntKind.bits, IntKind.signed]; simp; omega
theorem bits_or_u64 (a b : Nat) (ha : a < 18446744073709551616) (hb : b < 18446744073709551616) : bits BinOp.or IntKind.u64 (a : Int) (b : Int) = ((a ||| b : Nat) : Int) := by
  have hlt : a ||| b < 2 ^ 64 := Nat.or_lt_two_pow (by omega) (by omega)
  unfold bits
  simp [IntKind.bits, IntKind.wrap, IntKind.signed]
  have e3 : (BitVec.ofNat 64 a ||| BitVec.ofNat 64 b).toNat = a ||| b := by
    rw [BitVec.toNat_or, BitVec.toNat_ofNat, BitVec.toNat_ofNat, Nat.mod_eq_of_lt (by omega), Nat.mod_eq_of_lt (by omega)]
  change (((BitVec.ofNat 64 a ||| BitVec.ofNat 64 b).toNat : Nat) : Int) % 18446744073709551616 = _
  rw [e3]
  omega
theorem or_shift (V c i : Nat) (hV : V < 128 ^ i) (hi : i < 10) (hc : c < 256) (hf : c % 128 * 128 ^ i < 18446744073709551616) :
    bits BinOp.or IntKind.u64 (V : Int) (IntKind.u64.wrap (IntKind.u64.wrap (bits BinOp.and IntKind.u8 (c : Int) 127) * 2 ^ (7 * i))) = ((V + 128 ^ i * (c % 128) : Nat) : Int) := by
  have h1 : ∀ x : Fin 256, IntKind.u64.wrap (bits BinOp.and IntKind.u8 (x.val : Int) 127) = ((x.val % 128 : Nat) : Int) := by decide +kernel
  have h2 := h1 ⟨c, hc⟩
  simp only at h2
  have hp : (128 : Nat) ^ i = 2 ^ (7 * i) := by rw [Nat.pow_mul]
  have hV2 : V < 18446744073709551616 := Nat.lt_of_lt_of_le hV (by
    have : 128 ^ i ≤ 128 ^ 9 := Nat.pow_le_pow_right (by decide) (by omega)
    omega)
  rw [h2]
  have e1 : ((c % 128 : Nat) : Int) * 2 ^ (7 * i) = ((c % 128 * 128 ^ i : Nat) : Int) := by rw [hp]; simp
  rw [e1, wrap_u64 _ hf, bits_or_u64 _ _ hV2 hf]
  congr 1
  rw [hp, Nat.add_comm, Nat.two_pow_add_eq_or_of_lt (by rw [← hp]; exact hV), Nat.or_comm, Nat.mul_comm]
def NOk (l : List UInt8) (i : Nat) (n : Int) : Prop := i ≤ 9 → n = (valP (l.take i) : Int)

theorem ret3 {n m : Int} {s t : ByteArray} (h1 : n = m) (h2 : s = t) : Ending.returned (.tuple #[.int .u64 n, .string s, .bool true]) = .returned (.tuple #[.int .u64 m, .string t, .bool true]) := by rw [h1, h2]
theorem low_val (l : List UInt8) (i : Nat) (h : i ≤ l.length) : valP (l.take i) < 128 ^ i := by
  have := valP_lt (l.take i)
  rwa [show (l.take i).length = i by simp; omega] at this
theorem low_fits {c i : Nat} (hc : c < 128) (hi : i < 10) (hn : ¬ (i = 9 ∧ 1 < c)) : c % 128 * 128 ^ i < 18446744073709551616 := by
  rw [Nat.mod_eq_of_lt hc]
  by_cases h9 : i = 9
  · subst h9
    have : c ≤ 1 := by omega
    calc c * 128 ^ 9 ≤ 1 * 128 ^ 9 := Nat.mul_le_mul_right _ this
      _ < _ := by decide
  · have hp : 128 ^ i ≤ 128 ^ 8 := Nat.pow_le_pow_right (by decide) (by omega)
    calc c * 128 ^ i ≤ 127 * 128 ^ 8 := Nat.mul_le_mul (by omega) hp
      _ < _ := by decide
theorem take_snoc (l : List UInt8) (i : Nat) (h : i < l.length) : l.take (i + 1) = l.take i ++ [l[i]] := by
  rw [List.take_succ_eq_append_getElem h]
theorem NOk.step {l : List UInt8} {i : Nat} (_h : NOk l i (valP (l.take i))) (_h3 : ∀ c ∈ l.take i, 128 ≤ c.toNat) (hi : i < l.length) (h10 : i < 10) (_hc : 128 ≤ l[i].toNat) :
    NOk l (i + 1) (bits BinOp.or IntKind.u64 (valP (l.take i) : Int) (IntKind.u64.wrap (IntKind.u64.wrap (bits BinOp.and IntKind.u8 (l[i].toNat : Int) 127) * 2 ^ (7 * i)))) := by
  intro h9
  have hlen : (l.take i).length = i := by simp; omega
  have hV := valP_lt (l.take i)
  rw [hlen] at hV
  have hp : 128 ^ i ≤ 128 ^ 8 := Nat.pow_le_pow_right (by decide) (by omega)
  have hf : l[i].toNat % 128 * 128 ^ i ≤ 127 * 128 ^ 8 := Nat.mul_le_mul (by omega) hp
  rw [or_shift _ _ _ hV (by omega) (by have := l[i].toNat_lt; omega) (by omega), take_snoc l i hi, valP_snoc, hlen, Nat.mul_comm (128 ^ i)]
theorem step_high {l : List UInt8} {i : Nat} (h3 : ∀ c ∈ l.take i, 128 ≤ c.toNat) (hi : i < l.length) (hc : 128 ≤ l[i].toNat) : ∀ c ∈ l.take (i + 1), 128 ≤ c.toNat := by
  rw [take_snoc l i hi]
  intro c hm
  rcases List.mem_append.1 hm with h | h
  · exact h3 c h
  · rw [List.mem_singleton.1 h]; exact hc

set_option maxRecDepth 100000 in
theorem read_any (l : List UInt8) (w : World) (hl : l.length ≤ maxLen) : Calls Tryd.prog 65 #[.string ⟨l.toArray⟩] w fun e w' => e = .returned (retRead (readB l)) ∧ Below w.heap.size w w' := by
  unfold maxLen at hl
  go_enter Tryd.func65, Tryd.ntmps65
  go_wp2_with fail
  all_goals
    go_loop [2, 10] (fun n c => ∃ (i : Nat) (m : Int), i ≤ l.length ∧ i ≤ 10 ∧ c = .int .i64 i ∧ n = .int .u64 m ∧ NOk l i m ∧ (∀ c ∈ l.take i, 128 ≤ c.toNat)) (fun _ c => 10 - (intOf c).toNat)
    case atStart => exact ⟨0, 0, by omega, by omega, rfl, rfl, fun _ => rfl, by simp⟩
    case round =>
      obtain ⟨i, m, h1, h2, rfl, rfl, hN, h3⟩ := hrel
      have H3 := Lib.hid h3
      clear h3
      by_cases hi : i < l.length ∧ i < 10
      · obtain ⟨hi1, hi2⟩ := hi
        have hlt : (i : Int) < (l.length : Int) := by omega
        obtain rfl := hN (by omega)
        have HN := Lib.hid hN
        clear hN
        by_cases hc : (l[i].toNat : Int) < 128
        · have HR := Lib.hid (read_low l i hi1 hi2 H3.out (by omega))
          have hle : (i : Int) + 1 ≤ (l.length : Int) := by omega
          have g0 : (0 : Int) ≤ (i : Int) + 1 := by omega
          by_cases hz : (0 < i ∧ l[i].toNat = 0) ∨ (i = 9 ∧ 1 < l[i].toNat)
          · have HZ := Lib.hid (HR.out.trans (if_pos hz))
            have hz' : (0 < (i : Int) ∧ (l[i].toNat : Int) = 0) ∨ ((i : Int) = 9 ∧ 1 < (l[i].toNat : Int)) := by omega
            clear hz
            rcases hz' with ⟨z1, z2⟩ | ⟨z1, z2⟩
            · have z3 : ((l[i].toNat : Int) == 0) = true := by simpa using z2
              clear z2
              go_wp2_with fail
              all_goals (go_ret3; rw [HZ.out]; exact ⟨rfl, Below.refl _ _⟩)
            · obtain rfl : i = 9 := by omega
              clear z1
              have z4 : ((l[9].toNat : Int) == 0) = false := by simp; omega
              go_wp2_with fail
              all_goals (go_ret3; rw [HZ.out]; exact ⟨rfl, Below.refl _ _⟩)
          · have HZ := Lib.hid (HR.out.trans (if_neg hz))
            go_wp2_with fail
            all_goals
              go_quiet (fail)
              go_wp2_with fail
              go_ret3
              rw [HZ.out]
              refine ⟨ret3 ?_ ?_, below_drewN (Below.refl _ _) _⟩
              · rw [or_shift _ _ _ (low_val l i (by omega)) hi2 (by omega) (low_fits (by omega) hi2 (by omega)), Nat.mod_eq_of_lt (by omega)]
              · first | rfl | (have e9 : i = 9 := (by omega); subst e9; rfl)
        · have hc' : (128 : Int) ≤ (l[i].toNat : Int) := by omega
          go_wp2_with fail
          go_round
          case rel => exact ⟨i + 1, _, by omega, by omega, by go_num, rfl, HN.out.step H3.out hi1 hi2 (by omega), step_high H3.out hi1 (by omega)⟩
          case measure => simp [intOf]; omega
      · have HR := Lib.hid (read_out l i h1 h2 H3.out (by omega))
        clear hN
        go_wp2_with fail
        all_goals
          go_ret3
          rw [HR.out]
          exact ⟨rfl, Below.refl _ _⟩

def cutB (l : List UInt8) : Option (List UInt8 × List UInt8) := match readB l with
  | some (n, r) => if n ≤ r.length then some (r.take n, r.drop n) else none
  | none => none
def retCut (o : Option (List UInt8 × List UInt8)) : Value := match o with
  | some (s, r) => .tuple #[.string ⟨s.toArray⟩, .string ⟨r.toArray⟩, .bool true]
  | none => .tuple #[.string ⟨#[]⟩, .string ⟨#[]⟩, .bool false]

theorem rdFrom_len : ∀ (l : List UInt8) (i : Nat) (n : Nat) (r : List UInt8), rdFrom i l = some (n, r) → r.length < l.length
  | [], _, _, _, h => by simp [rdFrom] at h
  | c :: l, i, n, r, h => by
    unfold rdFrom at h
    split at h
    · cases h
    · split at h
      · cases h1 : rdFrom (i + 1) l with
        | none => rw [h1] at h; cases h
        | some x =>
          have := rdFrom_len l (i + 1) x.1 x.2 h1
          rw [h1] at h
          simp only [Option.map_some, Option.some.injEq, Prod.mk.injEq] at h
          rw [← h.2]; simp; omega
      · split at h
        · cases h
        · simp only [Option.some.injEq, Prod.mk.injEq] at h
          rw [← h.2]; simp
theorem readB_len {l : List UInt8} {n : Nat} {r : List UInt8} (h : readB l = some (n, r)) : r.length < l.length := rdFrom_len l 0 n r h

theorem cut_any (l : List UInt8) (w : World) (hl : l.length ≤ maxLen) : Calls Tryd.prog 95 #[.string ⟨l.toArray⟩] w fun e w' => e = .returned (retCut (cutB l)) ∧ Below w.heap.size w w' := by
  have hR := read_any l
  have hml : maxLen = 9223372036854775807 := rfl
  cases hr : readB l with
  | none =>
    have HQ := Lib.hid (show cutB l = none by simp [cutB, hr])
    have HR := Lib.hid hr
    clear hr hml
    go_enter Tryd.func95, Tryd.ntmps95
    go_wp2_with (go_at_call 65; go_must (refine (hR _ hl).mono ?_; rw [HR.out]; rintro e w1 ⟨rfl, hb⟩; dsimp only [retRead]))
    go_ret3
    rw [HQ.out]
    exact ⟨rfl, hb⟩
  | some x =>
    obtain ⟨n, r⟩ := x
    have HR := Lib.hid hr
    have hlen : r.length ≤ 9223372036854775807 := by have := readB_len hr; omega
    have HQ := Lib.hid (show cutB l = if n ≤ r.length then some (r.take n, r.drop n) else none by simp [cutB, hr])
    clear hr hml
    by_cases hn : n ≤ r.length
    · have HQ := Lib.hid (HQ.out.trans (if_pos hn))
      have hn1 : (n : Int) ≤ (r.length : Int) := by omega
      go_enter Tryd.func95, Tryd.ntmps95
      go_wp2_with (go_at_call 65; go_must (refine (hR _ hl).mono ?_; rw [HR.out]; rintro e w1 ⟨rfl, hb⟩; dsimp only [retRead]))
      go_quiet (fail)
      go_wp2_with fail
      go_ret3
      rw [HQ.out]
      exact ⟨rfl, below_drewN hb _⟩
    · have HQ := Lib.hid (HQ.out.trans (if_neg hn))
      have hn1 : (r.length : Int) < (n : Int) := by omega
      go_enter Tryd.func95, Tryd.ntmps95
      go_wp2_with (go_at_call 65; go_must (refine (hR _ hl).mono ?_; rw [HR.out]; rintro e w1 ⟨rfl, hb⟩; dsimp only [retRead]))
      go_ret3
      rw [HQ.out]
      exact ⟨rfl, hb⟩

def textB (l : List UInt8) : List UInt8 := varF 10 l.length ++ l
theorem varF_len (k n : Nat) : (varF k n).length ≤ k := by
  induction k generalizing n with
  | zero => simp [varF]
  | succ k ih => unfold varF; split <;> simp; exact ih _
theorem text_any (l : List UInt8) (w : World) (hl : l.length ≤ 1099511627776) : Calls Tryd.prog 82 #[.string ⟨l.toArray⟩] w fun e w' => e = .returned (.string ⟨(textB l).toArray⟩) ∧ Below w.heap.size w w' := by
  have hV := fun w => var_any l.length w (by omega)
  have hvl := varF_len 10 l.length
  have hs : (varF 10 l.length).length + l.length ≤ maxLen := by unfold maxLen; omega
  go_enter Tryd.func82, Tryd.ntmps82
  go_wp2_with (go_at_call 59; go_must (refine (hV _).mono ?_; rintro e w1 ⟨rfl, hb⟩))
  go_ret
  exact ⟨rfl, hb⟩
end Go.Proofs.YtlfphfklcifgpaaDoor

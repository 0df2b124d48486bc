/-
  A key as a text, by walking both texts; conditions: the laid tables, int64 numbers.
  A core's Apply: a reply, by walking the program's text; conditions: the core is one that entries come to, int64 numbers.
  A core's Apply: a statement, by walking the program's text; conditions: the core is one that entries come to, the rows lie in memory. (Printed by wip/mkcore.py of wip/corestmt.src.)
-/
import Derived.Test.YtibabfedpdoofaaGreatDoorQa1
import Derived.Test.YtibabfedpdoofaaGreatDoorQa8
namespace Go.Proofs.YtibabfedpdoofaaGreatDoor
open Go.RowKit Go.Own Go.Maps

theorem bytesKeyed : Keyed Tryz.prog 9 := string_keyed Tryz.underlying9
theorem strKey_inv {v : Value} {l : Lit} (h : keyOf Tryz.prog 9 v = some l) : ∃ s : ByteArray, v = .string s ∧ l = .string s.data.toList := by
  obtain ⟨s, h1, h2, _⟩ := WideMaps.string_of_keyOf Tryz.underlying9 h
  exact ⟨s, h1, h2⟩

set_option maxHeartbeats 8000000 in
set_option maxRecDepth 100000 in
theorem word_any {d : Int} (h0 : 0 ≤ d) (h5 : d ≤ 5) {W : World} (hL : DeedsLaid W) : Calls Tryz.prog 158 #[.int .i64 d] W fun e w' => e = .returned (.string ⟨(deedL d).toArray⟩) ∧ Below W.heap.size W w' := by
  have HO := Own.start W
  obtain ⟨mb, n, hc, hF⟩ := hL.has
  have hlt := hL.lt
  obtain ⟨es, clock, D, hM⟩ := OldMap.of hF
  have hu := Tryz.underlying242
  clear hF hL
  go_enter Tryz.func158, Tryz.ntmps158
  go_wp2_with (first | go_big_skip | ((with_reducible apply wpList_loadOld1 HO); exact rfl; exact rfl; exact hlt; exact hc; infer_instance; exact rfl; (simp only [Act.put, zA, zB, zC])) | ((with_reducible apply wpList_rangeOld (et := 3) HO hM); exact rfl; exact rfl; exact bytesKeyed; exact hu; exact rfl; clear HO; intro r left cnt w hleft HO; (simp only [Act.put, zA, zB, zC])))
  have hl0 : left (.string (deedL d)) = true := hleft _ trivial _ (deedsF_word h0 h5)
  clear hleft
  go_loopw [] (fun wr => ∃ (left' : Lit → Bool) (cnt' : Nat), left' (.string (deedL d)) = true ∧ Own W wr [iterE Tryz.prog 9 mb r es clock left' cnt']) (fun wr => wr.rangeLeft mb r)
  case atStart => exact ⟨left, cnt, hl0, HO⟩
  case round =>
    clear HO
    obtain ⟨left', cnt', hl, HO⟩ := hrel
    have hm := (hM.ranges HO.grown (HO.has _ (.head _))).left_eq
    go_wp2_with (first | ((with_reducible apply wpList_nextOld HO hM); exact rfl; exact rfl; exact bytesKeyed; (intro _ _; (repeat (with_reducible (first | exact At.head _ | apply At.tail)))); exact rfl) | go_big_skip)
    · intro hno
      rw [hno] at hl
      cases hl
    · intro key c kl cnt2 w hkey hlk hgk hlt2 HO hen
      obtain ⟨s, rfl, rfl⟩ := strKey_inv hkey
      obtain ⟨d2, g0, g5, g6, rfl⟩ := deedsF_inv hgk
      simp only [Lit.string.injEq] at g6
      have hm2 := (hM.ranges HO.grown (HO.has _ (.head _))).left_eq
      by_cases hd : d2 = d
      · subst hd
        have hs : s = ⟨(deedL d2).toArray⟩ := by
          obtain ⟨⟨x⟩⟩ := s
          simp only at g6
          rw [← g6]
        subst hs
        clear hm hm2 hlk hgk hkey
        go_wp2_with (first | (first | go_big_skip | ((with_reducible apply wpList_loadAll HO); exact rfl; exact rfl; (repeat (with_reducible (first | exact At.head _ | apply At.tail))); infer_instance; exact rfl; exact rfl; (simp only [Act.put, zA, zB, zC])) | ((with_reducible apply wpList_loadOne HO); exact rfl; exact rfl; (repeat (with_reducible (first | exact At.head _ | apply At.tail))); exact rfl; infer_instance; exact rfl; (simp only [Act.put, zA, zB, zC]))))
        go_ret
        exact ⟨rfl, HO.grown⟩
      · have hdB : (d2 == d) = false := by rw [beq_eq_false_iff_ne]; exact hd
        have hne : deedL d ≠ deedL d2 := by
          intro e
          have h1 := deedsF_word h0 h5
          rw [e, deedsF_word g0 g5] at h1
          simp at h1
          exact hd h1
        have hl2 : (left' (.string (deedL d)) && !(Lit.string (deedL d)).sameKey (.string s.data.toList)) = true := by
          rw [hl, Bool.true_and]
          cases hk : (Lit.string (deedL d)).sameKey (.string s.data.toList) with
          | false => rfl
          | true =>
            have := WideAt.sameKey_eq hk
            simp only [Lit.string.injEq] at this
            exact absurd (this.trans g6) hne
        replace hm := Lib.hid hm
        replace hm2 := Lib.hid hm2
        replace hl2 := Lib.hid hl2
        clear hgk hlk hl
        go_wp2_with (first | (first | go_big_skip | ((with_reducible apply wpList_loadAll HO); exact rfl; exact rfl; (repeat (with_reducible (first | exact At.head _ | apply At.tail))); infer_instance; exact rfl; exact rfl; (simp only [Act.put, zA, zB, zC])) | ((with_reducible apply wpList_loadOne HO); exact rfl; exact rfl; (repeat (with_reducible (first | exact At.head _ | apply At.tail))); exact rfl; infer_instance; exact rfl; (simp only [Act.put, zA, zB, zC]))))
        go_roundw
        case rel => exact ⟨_, cnt2, hl2.out, HO⟩
        case measure => rw [hm2.out, hm.out]; exact hlt2
def putK (o d : Int) : ByteArray := ⟨(Lib.itoa o).toArray⟩ ++ ⟨#[45]⟩ ++ ⟨(deedL d).toArray⟩

set_option maxHeartbeats 8000000 in
set_option maxRecDepth 100000 in
theorem keysPut_any {o d : Int} (hk : keyOk o d = true) {W : World} (hL : LaidE W) : Calls Tryz.prog 129 #[.agg #[.int .i64 o, .int .i64 d]] W fun e w' => e = .returned (.string (putK o d)) ∧ Below W.heap.size W w' := by
  have HO := Own.start W
  have h1 : 1 ≤ o ∧ o ≤ 60 ∧ 0 ≤ d ∧ d ≤ 5 := by
    simp only [keyOk, isDeed, Bool.and_eq_true, decide_eq_true_eq] at hk
    omega
  have KC := fun w => keyCheck_any o d w
  rw [hk] at KC
  have MP := fun w (hb : Below W.heap.size W w) => mPut_any o (by omega) (by omega) (hL.below hb)
  have WD := fun w (hb : Below W.heap.size W w) => word_any h1.2.2.1 h1.2.2.2 (hL.below hb).d
  have hlen := Lib.itoa_length_le o (by omega) (by omega)
  have s1 : (⟨(Lib.itoa o).toArray⟩ : ByteArray).size ≤ 21 := hlen
  have s2 : (⟨(deedL d).toArray⟩ : ByteArray).size ≤ 7 := by
    show (deedL d).length ≤ 7
    unfold deedL
    repeat' split
    all_goals decide
  have c1 : ¬ (9223372036854775807 < (⟨(Lib.itoa o).toArray⟩ : ByteArray).size + (⟨#[45]⟩ : ByteArray).size) := by
    show ¬ (9223372036854775807 < (⟨(Lib.itoa o).toArray⟩ : ByteArray).size + 1); omega
  have c2 : ¬ (9223372036854775807 < (⟨(Lib.itoa o).toArray⟩ : ByteArray).size + 1) := by omega
  have e1 : ((⟨(Lib.itoa o).toArray⟩ : ByteArray) ++ ⟨#[45]⟩).size = (⟨(Lib.itoa o).toArray⟩ : ByteArray).size + 1 := by rw [ByteArray.size_append]; rfl
  have c3 : ¬ (9223372036854775807 < ((⟨(Lib.itoa o).toArray⟩ : ByteArray) ++ ⟨#[45]⟩).size + (⟨(deedL d).toArray⟩ : ByteArray).size) := by rw [e1]; omega
  have c4 : ¬ (9223372036854775807 < (⟨(Lib.itoa o).toArray⟩ : ByteArray).size + 1 + (⟨(deedL d).toArray⟩ : ByteArray).size) := by omega
  have HP := Lib.hid (show putK o d = (⟨(Lib.itoa o).toArray⟩ : ByteArray) ++ ⟨#[45]⟩ ++ ⟨(deedL d).toArray⟩ from rfl)
  generalize putK o d = y at *
  generalize (⟨(Lib.itoa o).toArray⟩ : ByteArray) = x1 at *
  generalize (⟨(deedL d).toArray⟩ : ByteArray) = x2 at *
  clear hk hL h1 hlen s1 s2 e1
  go_enter Tryz.func129, Tryz.ntmps129
  go_wp2_with (first | (first | go_big_skip | ((with_reducible apply wpList_loadAll HO); exact rfl; exact rfl; (repeat (with_reducible (first | exact At.head _ | apply At.tail))); infer_instance; exact rfl; exact rfl; (simp only [Act.put, zA, zB, zC])) | ((with_reducible apply wpList_loadOne HO); exact rfl; exact rfl; (repeat (with_reducible (first | exact At.head _ | apply At.tail))); exact rfl; infer_instance; exact rfl; (simp only [Act.put, zA, zB, zC]))) | (first | ((with_reducible apply wpList_boxAgg _ HO rfl); exact rfl; exact rfl; exact rfl; clear HO; intro b3 w HO; (simp only [Act.put, zA, zB, zC])) | ((with_reducible apply wpList_allocAgg _ HO rfl); exact rfl; infer_instance; exact rfl; clear HO; intro b3 w HO; (simp only [Act.put, zA, zB, zC]))) | (go_at_call 156; go_must ((with_reducible refine (KC _).mono ?_); rintro e w ⟨rfl, hb⟩; replace HO := HO.call hb; clear hb)))
  refine region_own HO (by kernel_rfl) (by kernel_rfl) ?_
  clear HO
  intro F HF
  repeat (first | (first | go_big_quiet_skip | ((with_reducible apply wpQuiet_loadAll HF); exact rfl; exact rfl; (repeat (with_reducible (first | exact At.head _ | apply At.tail))); infer_instance; exact rfl; exact rfl; (simp only [Act.put, zA, zB, zC])) | ((with_reducible apply wpQuiet_loadOne HF); exact rfl; exact rfl; (repeat (with_reducible (first | exact At.head _ | apply At.tail))); exact rfl; infer_instance; exact rfl; (simp only [Act.put, zA, zB, zC])) | ((with_reducible apply wpQuiet_loadPart HF); exact rfl; exact rfl; (repeat (with_reducible (first | exact At.head _ | apply At.tail))); infer_instance; exact (Nat.le_of_ble_eq_true rfl); (simp only [List.drop_succ_cons, List.drop_zero, List.take_succ_cons, List.take_zero]; rfl); exact rfl; (simp only [Act.put, zA, zB, zC]))) | go_big_quiet_step ((first | (go_at_call 157; (with_reducible exact calls_fam HF (MP _ (HF.own _).grown))) | (go_at_call 158; (with_reducible exact calls_fam HF (WD _ (HF.own _).grown))))))
  refine wpQuiet_nil ?_
  intro x
  have HO := HF.own x
  clear HF
  generalize F x = w at *
  clear x F
  go_wp2_with fail
  go_ret
  exact ⟨by rw [HP.out]; rfl, HO.grown⟩
/-- What is left of a numeral. -/
def decLeft (n : Nat) : List UInt8 := if n = 0 then [] else Lib.decDigits n
theorem decLeft_step {n : Nat} (h : n ≠ 0) : decLeft n = decLeft (n / 10) ++ [UInt8.ofNat (48 + n % 10)] := by
  unfold decLeft
  rw [if_neg h]
  by_cases h1 : n < 10
  · rw [Lib.decDigits, dif_pos h1, if_pos (by omega), Nat.mod_eq_of_lt h1]; rfl
  · rw [Lib.decDigits, dif_neg h1, if_neg (by omega)]

set_option maxHeartbeats 8000000 in
set_option maxRecDepth 100000 in
theorem refDigits_any {n : Nat} (hn : n < 18446744073709551616) (W : World) : Calls Tryz.prog 145 #[.int .u64 (n : Int)] W fun e w' => e = .returned (.string ⟨(Lib.decDigits n).toArray⟩) ∧ Below W.heap.size W w' := by
  have HO := Own.start W
  have HN := Lib.hid (Lib.lt_pow_nDigits n)
  go_enter Tryz.func145, Tryz.ntmps145
  go_wp2_with fail
  go_loopw [0, 3] (fun u s wr => ∃ (m : Nat) (l : List UInt8), m ≤ n ∧ m * 2 ^ l.length ≤ n ∧ u = .int .u64 (m : Int) ∧ s = .string ⟨l.toArray⟩ ∧ (l = [] ∧ m = n ∨ l ≠ [] ∧ Lib.decDigits n = decLeft m ++ l) ∧ Own W wr []) (fun u s _ => match s with
    | .string b => if b.size = 0 then n + 2 else (intOf u).toNat
    | _ => 0)
  case atStart => exact ⟨n, [], Nat.le_refl _, by simp, rfl, rfl, .inl ⟨rfl, rfl⟩, HO⟩
  case round =>
    clear HO
    obtain ⟨m, l, hm, hlm, rfl, rfl, hs, HO⟩ := hrel
    by_cases hex : l ≠ [] ∧ m = 0
    · obtain ⟨hl, rfl⟩ := hex
      rcases hs with ⟨h, _⟩ | ⟨-, hs⟩
      · exact absurd h hl
      have hle : l.isEmpty = false := by cases l <;> simp_all
      have HS := Lib.hid (show l = Lib.decDigits n by rw [hs]; rfl)
      clear hs hlm hm hl
      go_wp2_with fail
      go_ret
      exact ⟨by rw [← HS.out]; rfl, HO.grown⟩
    · have hbd : l.length < 64 := by
        by_cases hl0 : l = []
        · subst hl0; decide
        · have h1 : 1 ≤ m := by
            rcases Nat.eq_zero_or_pos m with h | h
            · exact absurd ⟨hl0, h⟩ hex
            · exact h
          have h2 : 2 ^ l.length ≤ m * 2 ^ l.length := Nat.le_mul_of_pos_left _ h1
          have h3 : 2 ^ l.length < 2 ^ 64 := by
            have : (18446744073709551616 : Nat) = 2 ^ 64 := by decide
            omega
          exact (Nat.pow_lt_pow_iff_right (by decide)).1 h3
      obtain ⟨k, hk⟩ : ∃ k, k = m % 10 := ⟨_, rfl⟩
      obtain ⟨q, hq⟩ : ∃ q, q = m / 10 := ⟨_, rfl⟩
      have hk10 : k < 10 := by omega
      have hqm : q ≤ m := by omega
      have hk58 : 48 + k < 256 := by omega
      have e1 : (m : Int).tmod 10 = (k : Int) := by rw [Int.tmod_eq_emod_of_nonneg (by omega), hk]; rfl
      have e2 : (m : Int).tdiv 10 = (q : Int) := by rw [Int.tdiv_eq_ediv_of_nonneg (by omega), hq]; rfl
      have e3 : IntKind.u64.wrap (48 + (k : Int)) = 48 + (k : Int) := by rw [IntKind.wrap_u64]; omega
      have e4 : IntKind.u8.wrap (48 + (k : Int)) = 48 + (k : Int) := by rw [IntKind.wrap_u8]; omega
      have e5 : IntKind.u64.wrap (q : Int) = (q : Int) := by rw [IntKind.wrap_u64]; omega
      have c1 : ¬ (9223372036854775807 < 1 + l.length) := by omega
      have c2 : ¬ (9223372036854775807 < (⟨#[UInt8.ofNat (48 + k)]⟩ : ByteArray).size + (⟨l.toArray⟩ : ByteArray).size) := by
        show ¬ (9223372036854775807 < 1 + l.length); omega
      have HB := Lib.hid (show q * 2 ^ (UInt8.ofNat (48 + k) :: l).length ≤ n by
        rw [List.length_cons, Nat.pow_succ]
        have : q * 2 ≤ m := by omega
        calc q * (2 ^ l.length * 2) = (q * 2) * 2 ^ l.length := by rw [Nat.mul_comm (2 ^ l.length) 2, Nat.mul_assoc]
          _ ≤ m * 2 ^ l.length := Nat.mul_le_mul_right _ this
          _ ≤ n := hlm)
      have HD := Lib.hid (show Lib.decDigits n = decLeft q ++ (UInt8.ofNat (48 + k) :: l) by
        rcases hs with ⟨rfl, rfl⟩ | ⟨hl, hs⟩
        · by_cases h0 : m = 0
          · subst h0; subst hk; subst hq; rw [Lib.decDigits, dif_pos (by omega)]; rfl
          · have := decLeft_step h0
            rw [← hk, ← hq] at this
            rw [show Lib.decDigits m = decLeft m by rw [decLeft, if_neg h0], this]
        · have h0 : m ≠ 0 := fun h => hex ⟨hl, h⟩
          have := decLeft_step h0
          rw [← hk, ← hq] at this
          rw [hs, this, List.append_assoc]
          rfl)
      by_cases hl0 : l = []
      · subst hl0
        by_cases hm0 : 0 < m
        · have hmI : (0 : Int) < (m : Int) := by omega
          clear hs hex hk hq hlm
          go_wp2_with (first | (first | go_big_skip | ((with_reducible apply wpList_loadAll HO); exact rfl; exact rfl; (repeat (with_reducible (first | exact At.head _ | apply At.tail))); infer_instance; exact rfl; exact rfl; (simp only [Act.put, zA, zB, zC])) | ((with_reducible apply wpList_loadOne HO); exact rfl; exact rfl; (repeat (with_reducible (first | exact At.head _ | apply At.tail))); exact rfl; infer_instance; exact rfl; (simp only [Act.put, zA, zB, zC]))) | (first | ((with_reducible apply wpList_lit1 HO); exact rfl; infer_instance; infer_instance; exact rfl; exact rfl; exact (by decide); exact rfl; clear HO; intro bb w HO; (simp only [Act.put, zA, zB, zC])) | ((with_reducible apply wpList_lit1c HO); exact rfl; infer_instance; infer_instance; (first | (simp [Act.eval]; rfl) | exact rfl); exact rfl; exact rfl; clear HO; intro bb w HO; (simp only [Act.put, zA, zB, zC]))) | ((with_reducible apply wpList_strOne (n := 48 + k) HO); exact rfl; exact rfl; (repeat (with_reducible (first | exact At.head _ | apply At.tail))); (first | omega | (simp; done) | (simp; omega)); exact Tryz.underlying23; exact Tryz.underlying5; exact Tryz.underlying9; (first | omega | decide); exact rfl; (simp only [Act.put, zA, zB, zC])))
          replace HO := HO.tail
          go_roundw
          case rel => exact ⟨q, [UInt8.ofNat (48 + k)], by omega, HB.out, by go_num, by first | rfl | simp | (congr 3; simp), .inr ⟨by simp, HD.out⟩, HO⟩
          case measure => simp [intOf, ByteArray.size] <;> omega
        · have hmI : ¬ (0 : Int) < (m : Int) := by omega
          clear hs hex hk hq hlm
          go_wp2_with (first | (first | go_big_skip | ((with_reducible apply wpList_loadAll HO); exact rfl; exact rfl; (repeat (with_reducible (first | exact At.head _ | apply At.tail))); infer_instance; exact rfl; exact rfl; (simp only [Act.put, zA, zB, zC])) | ((with_reducible apply wpList_loadOne HO); exact rfl; exact rfl; (repeat (with_reducible (first | exact At.head _ | apply At.tail))); exact rfl; infer_instance; exact rfl; (simp only [Act.put, zA, zB, zC]))) | (first | ((with_reducible apply wpList_lit1 HO); exact rfl; infer_instance; infer_instance; exact rfl; exact rfl; exact (by decide); exact rfl; clear HO; intro bb w HO; (simp only [Act.put, zA, zB, zC])) | ((with_reducible apply wpList_lit1c HO); exact rfl; infer_instance; infer_instance; (first | (simp [Act.eval]; rfl) | exact rfl); exact rfl; exact rfl; clear HO; intro bb w HO; (simp only [Act.put, zA, zB, zC]))) | ((with_reducible apply wpList_strOne (n := 48 + k) HO); exact rfl; exact rfl; (repeat (with_reducible (first | exact At.head _ | apply At.tail))); (first | omega | (simp; done) | (simp; omega)); exact Tryz.underlying23; exact Tryz.underlying5; exact Tryz.underlying9; (first | omega | decide); exact rfl; (simp only [Act.put, zA, zB, zC])))
          replace HO := HO.tail
          go_roundw
          case rel => exact ⟨q, [UInt8.ofNat (48 + k)], by omega, HB.out, by go_num, by first | rfl | simp | (congr 3; simp), .inr ⟨by simp, HD.out⟩, HO⟩
          case measure => simp [intOf, ByteArray.size] <;> omega
      · have h1 : 0 < m := by
          rcases Nat.eq_zero_or_pos m with h | h
          · exact absurd ⟨hl0, h⟩ hex
          · exact h
        have hmI : (0 : Int) < (m : Int) := by omega
        have hqlt : q < m := by omega
        have hls : l.length ≠ 0 := by simpa using hl0
        clear hs hex hk hq hlm
        go_wp2_with (first | (first | go_big_skip | ((with_reducible apply wpList_loadAll HO); exact rfl; exact rfl; (repeat (with_reducible (first | exact At.head _ | apply At.tail))); infer_instance; exact rfl; exact rfl; (simp only [Act.put, zA, zB, zC])) | ((with_reducible apply wpList_loadOne HO); exact rfl; exact rfl; (repeat (with_reducible (first | exact At.head _ | apply At.tail))); exact rfl; infer_instance; exact rfl; (simp only [Act.put, zA, zB, zC]))) | (first | ((with_reducible apply wpList_lit1 HO); exact rfl; infer_instance; infer_instance; exact rfl; exact rfl; exact (by decide); exact rfl; clear HO; intro bb w HO; (simp only [Act.put, zA, zB, zC])) | ((with_reducible apply wpList_lit1c HO); exact rfl; infer_instance; infer_instance; (first | (simp [Act.eval]; rfl) | exact rfl); exact rfl; exact rfl; clear HO; intro bb w HO; (simp only [Act.put, zA, zB, zC]))) | ((with_reducible apply wpList_strOne (n := 48 + k) HO); exact rfl; exact rfl; (repeat (with_reducible (first | exact At.head _ | apply At.tail))); (first | omega | (simp; done) | (simp; omega)); exact Tryz.underlying23; exact Tryz.underlying5; exact Tryz.underlying9; (first | omega | decide); exact rfl; (simp only [Act.put, zA, zB, zC])))
        replace HO := HO.tail
        go_roundw
        case rel => exact ⟨q, UInt8.ofNat (48 + k) :: l, by omega, HB.out, by go_num, by first | exact cat1 _ _ | rfl | simp | (congr 3; simp), .inr ⟨by simp, HD.out⟩, HO⟩
        case measure => simp [intOf, ByteArray.size, hls] <;> omega
end Go.Proofs.YtibabfedpdoofaaGreatDoor
namespace Go.Proofs.YtibabfedpdoofaaGreatDoor
open Go.RowKit Go.Own Go.Maps

/-- Cores that entries come to. -/
structure CoOk (S : CoS) : Prop where
  len : S.L.length ≤ 60
  ord : ∀ x ∈ S.L, ordE x.1 = 0
  bk : Bk S.P
/-- What a reply posts. -/
def replyP (P : List Pst) (id d by' : Int) : List Pst := if 0 < by' then postL P ⟨putK id d, id, 1, 0, by'⟩ else if by' < 0 then postL P ⟨putK id d, id, 3, 1, -by'⟩ else P
def replyE (L : List (OrdS × D6)) (id d code : Int) : Int := match ordAt L id with
  | none => 4
  | some x => match replyOf x.2 d code with
    | none => 92
    | some _ => 0
def replyS (S : CoS) (id d code : Int) : CoS := match ordAt S.L id with
  | none => S
  | some x => match replyOf x.2 d code with
    | none => S
    | some t => ⟨sagAt S.L id (x.1, t), replyP S.P id d (netS x.1 t - netS x.1 x.2)⟩
theorem replyOf_deed {s t : D6} {d code : Int} (h : replyOf s d code = some t) : 0 ≤ d ∧ d ≤ 5 := by
  unfold replyOf at h
  split at h
  · rename_i h1
    obtain ⟨_, rfl, _⟩ := h1
    unfold waitsOf
    repeat' split
    all_goals decide
  · cases h
theorem netS_bound {o : OrdS} (h : ordE o = 0) (s : D6) : 0 ≤ netS o s ∧ netS o s ≤ 1099511627776 := by
  have := ordCheck_ok h
  unfold netS
  split <;> omega

theorem putK_size (o d : Int) (h0 : -9223372036854775808 ≤ o) (h1 : o ≤ 9223372036854775807) : (putK o d).size ≤ 40 := by
  have h2 : (Lib.itoa o).length ≤ 21 := Lib.itoa_length_le o h0 h1
  have s2 : (deedL d).length ≤ 7 := by
    unfold deedL
    repeat' split
    all_goals decide
  unfold putK
  rw [ByteArray.size_append, ByteArray.size_append]
  show (Lib.itoa o).length + 1 + (deedL d).length ≤ 40
  omega

set_option maxHeartbeats 16000000 in
set_option maxRecDepth 100000 in
theorem coReply_any {W w : World} {M : List Ent} {a : CoA} {S : CoS} {i : InA} {A : InS} (id d code : Int) (HO : Own W w (coPs a S i A ++ M)) (hid : inI id = true) (hok : CoOk S) (hlen : S.P.length ≤ 100000) (hL : LaidE W) :
    Calls Tryz.prog 81 #[.pointer (some ⟨a.c, 0, none⟩), .agg #[.int .i64 id, .int .i64 d], .int .i64 code] w fun e w' => e = .returned (.int .i64 (replyE S.L id d code)) ∧ ∃ u', Own W w' (coPs { a with u := u' } (replyS S id d code) i A ++ M) := by
  have OR := fun (w : World) (L : List Ent) (h : Own W w L) h1 h2 h3 => coOrder_any (Own.coAt h (a := a) (S := S) (i := i) (A := A) h1 h2 h3) hid
  have hpv := (Own.coAt HO (a := a) (S := S) (i := i) (A := A) (by repeat (first | exact List.mem_cons_self | apply List.mem_cons_of_mem)) (by repeat (first | exact List.mem_cons_self | apply List.mem_cons_of_mem)) (by repeat (first | exact List.mem_cons_self | apply List.mem_cons_of_mem))).row.slice
  obtain ⟨ac, av, ak, au, apm, abm⟩ := a
  obtain ⟨p, c, hv, hmx⟩ := hpv
  simp only at hv
  subst hv
  rw [List.length_map] at HO
  rw [List.length_map] at OR
  simp only [coC] at OR
  unfold coPs coC at HO
  simp only [List.cons_append, List.nil_append] at HO
  rcases hx : ordAt S.L id with _ | x
  · rw [hx] at OR
    rw [show replyE S.L id d code = 4 by unfold replyE; rw [hx], show replyS S id d code = S by unfold replyS; rw [hx]]
    simp only [ordR] at OR
    have OR0 := Lib.hid OR
    clear OR
    go_enter Tryz.func81, Tryz.ntmps81
    go_wp2_with (first | go_big_skip | (first | go_big_skip | ((with_reducible apply wpList_loadAll HO); exact rfl; exact rfl; (repeat (with_reducible (first | exact At.head _ | apply At.tail))); infer_instance; exact rfl; exact rfl; (simp only [Act.put, zA, zB, zC])) | ((with_reducible apply wpList_loadOne HO); exact rfl; exact rfl; (repeat (with_reducible (first | exact At.head _ | apply At.tail))); exact rfl; infer_instance; exact rfl; (simp only [Act.put, zA, zB, zC]))) | ((with_reducible apply wpList_storeAll HO); exact rfl; exact rfl; exact rfl; (repeat (with_reducible (first | exact At.head _ | apply At.tail))); infer_instance; exact rfl; exact rfl; exact rfl; exact rfl; clear HO; intro w HO; (simp only [Act.put])) | (first | ((with_reducible apply wpList_boxAgg _ HO rfl); exact rfl; exact rfl; exact rfl; clear HO; intro b1 w HO; (simp only [Act.put, zA, zB, zC])) | ((with_reducible apply wpList_allocAgg _ HO rfl); exact rfl; infer_instance; exact rfl; clear HO; intro b1 w HO; (simp only [Act.put, zA, zB, zC]))) | (go_at_call 36; go_must ((with_reducible refine (OR0.out _ _ HO (by repeat (first | exact List.mem_cons_self | apply List.mem_cons_of_mem)) (by repeat (first | exact List.mem_cons_self | apply List.mem_cons_of_mem)) (by repeat (first | exact List.mem_cons_self | apply List.mem_cons_of_mem))).mono ?_); rintro e w ⟨rfl, hb⟩; replace HO := HO.call hb; clear hb)))
    go_ret
    refine ⟨rfl, au, ?_⟩
    unfold coPs coC
    rw [List.length_map]
    exact HO.tail.tail
  · obtain ⟨j, hj, hid2, rfl⟩ := ordAt_some hx
    have hi := inI_iff.1 hid
    have hjI : (j : Int) < (S.L.length : Int) := by omega
    have e1 : IntKind.i64.wrap (id - 1) = (j : Int) := by rw [wrap_in (inI_iff.2 (by omega))]; omega
    have e2 : (id - 1).toNat = j := by omega
    have hset := Lib.hid (fun y => show (S.L.set j y).map sagaL = (S.L.map sagaL).set j (sagaL y) from List.map_set ..)
    have hjm := Lib.hid (show j < (S.L.map sagaL).length by simpa using hj)
    obtain ⟨q, hq⟩ : ∃ q, p = some q := by
      rcases p with _ | q
      · have := (Own.coAt HO (a := ⟨ac, .slice none S.L.length c, ak, au, apm, abm⟩) (S := S) (i := i) (A := A) (by repeat (first | exact List.mem_cons_self | apply List.mem_cons_of_mem)) (by repeat (first | exact List.mem_cons_self | apply List.mem_cons_of_mem)) (by repeat (first | exact List.mem_cons_self | apply List.mem_cons_of_mem))).row.at (by simp; omega)
        obtain ⟨_, _, h, _⟩ := this
        cases h
      · exact ⟨q, rfl⟩
    subst hq
    have hsl := Lib.hid (sagaL_len S.L)
    have hoo := hok.ord _ (List.getElem_mem hj)
    have hl60 := hok.len
    rw [hx] at OR
    rw [List.length_map]
    rw [show replyE S.L id d code = (match replyOf S.L[j].2 d code with | none => 92 | some _ => 0) by unfold replyE; rw [hx], show replyS S id d code = (match replyOf S.L[j].2 d code with | none => S | some t => ⟨S.L.set j (S.L[j].1, t), replyP S.P id d (netS S.L[j].1 t - netS S.L[j].1 S.L[j].2)⟩) by unfold replyS; rw [hx]; simp only [sagAt, e2]]
    generalize hy : S.L[j] = y at *
    obtain ⟨o, s⟩ := y
    dsimp only
    have RP := fun w => reply_any o s d code w
    simp only [ordR, sagaV] at OR
    have OR0 := Lib.hid OR
    clear OR hx
    rcases hst : replyOf s d code with _ | t
    · rw [hst] at RP
      simp only [replyV, noneV, sagaV] at RP
      clear hid2 e2 hi
      go_enter Tryz.func81, Tryz.ntmps81
      go_wp2_with (first | go_big_skip | (first | go_big_skip | ((with_reducible apply wpList_loadAll HO); exact rfl; exact rfl; (repeat (with_reducible (first | exact At.head _ | apply At.tail))); infer_instance; exact rfl; exact rfl; (simp only [Act.put, zA, zB, zC])) | ((with_reducible apply wpList_loadOne HO); exact rfl; exact rfl; (repeat (with_reducible (first | exact At.head _ | apply At.tail))); exact rfl; infer_instance; exact rfl; (simp only [Act.put, zA, zB, zC]))) | ((with_reducible apply wpList_storeAll HO); exact rfl; exact rfl; exact rfl; (repeat (with_reducible (first | exact At.head _ | apply At.tail))); infer_instance; exact rfl; exact rfl; exact rfl; exact rfl; clear HO; intro w HO; (simp only [Act.put])) | ((have _h : Own W _ (box _ _ :: box _ _ :: box _ _ :: _) := HO); clear _h; (first | ((with_reducible apply wpList_boxAgg _ HO rfl); exact rfl; exact rfl; exact rfl; clear HO; intro b3 w HO; (simp only [Act.put, zA, zB, zC])) | ((with_reducible apply wpList_allocAgg _ HO rfl); exact rfl; infer_instance; exact rfl; clear HO; intro b3 w HO; (simp only [Act.put, zA, zB, zC])))) | ((have _h : Own W _ (box _ _ :: box _ _ :: _) := HO); clear _h; (first | ((with_reducible apply wpList_boxAgg _ HO rfl); exact rfl; exact rfl; exact rfl; clear HO; intro b2 w HO; (simp only [Act.put, zA, zB, zC])) | ((with_reducible apply wpList_allocAgg _ HO rfl); exact rfl; infer_instance; exact rfl; clear HO; intro b2 w HO; (simp only [Act.put, zA, zB, zC])))) | (first | ((with_reducible apply wpList_boxAgg _ HO rfl); exact rfl; exact rfl; exact rfl; clear HO; intro b1 w HO; (simp only [Act.put, zA, zB, zC])) | ((with_reducible apply wpList_allocAgg _ HO rfl); exact rfl; infer_instance; exact rfl; clear HO; intro b1 w HO; (simp only [Act.put, zA, zB, zC]))) | (go_at_call 36; go_must ((with_reducible refine (OR0.out _ _ HO (by repeat (first | exact List.mem_cons_self | apply List.mem_cons_of_mem)) (by repeat (first | exact List.mem_cons_self | apply List.mem_cons_of_mem)) (by repeat (first | exact List.mem_cons_self | apply List.mem_cons_of_mem))).mono ?_); rintro e w ⟨rfl, hb⟩; replace HO := HO.call hb; clear hb)) | (go_at_call 128; go_must ((with_reducible refine (RP _).mono ?_); rintro e w ⟨rfl, hb⟩; replace HO := HO.call hb; clear hb)))
      go_ret
      exact ⟨rfl, au, HO.tail.tail.tail⟩
    · rw [hst] at RP
      simp only [replyV, sagaV] at RP
      dsimp only
      have hd := replyOf_deed hst
      have KP := fun w (hb : Below W.heap.size W w) => keysPut_any (o := id) (d := d) (by simp only [keyOk, isDeed, Bool.and_eq_true, decide_eq_true_eq]; omega) (hL.below hb)
      have hps : (putK id d).size ≤ maxLen := by
        have h1 : (putK id d).size ≤ 40 := putK_size id d (by omega) (by omega)
        unfold maxLen; omega
      have NT := fun w => sagaNet_any o t w
      have NS := fun w => sagaNet_any o s w
      have n1 := netS_bound hoo t
      have n2 := netS_bound hoo s
      have HR := Lib.hid (show replyP S.P id d (netS o t - netS o s) = if 0 < netS o t - netS o s then postL S.P ⟨putK id d, id, 1, 0, netS o t - netS o s⟩ else if netS o t - netS o s < 0 then postL S.P ⟨putK id d, id, 3, 1, -(netS o t - netS o s)⟩ else S.P from rfl)
      simp only [sagaV] at NT NS
      have wp1 : ∀ x, inI x = true → WfP ⟨putK id d, id, 1, 0, x⟩ := fun x hx => ⟨hid, rfl, rfl, hx, hps⟩
      have wp2 : ∀ x, inI x = true → WfP ⟨putK id d, id, 3, 1, x⟩ := fun x hx => ⟨hid, rfl, rfl, hx, hps⟩
      have PO1 := fun x hx (w : World) (L : List Ent) (L' : Value → List Ent) (h : Own W w L) hat => bkPost_any (W := W) (w := w) (L := L) (L' := L') (b := ak) (v := au) (pm := apm) (bm := abm) (l := S.P) ⟨putK id d, id, 1, 0, x⟩ h hat hok.bk (wp1 x hx) hlen
      have PO2 := fun x hx (w : World) (L : List Ent) (L' : Value → List Ent) (h : Own W w L) hat => bkPost_any (W := W) (w := w) (L := L) (L' := L') (b := ak) (v := au) (pm := apm) (bm := abm) (l := S.P) ⟨putK id d, id, 3, 1, x⟩ h hat hok.bk (wp2 x hx) hlen
      simp only [pstV, pstC] at PO1 PO2
      generalize netS o t = nt at *
      generalize netS o s = ns at *
      generalize replyP S.P id d (nt - ns) = Px at *
      clear hid2 e2 hi hoo hst hy
      go_enter Tryz.func81, Tryz.ntmps81
      go_upto_region 7 with (first | go_big_skip | (first | go_big_skip | ((with_reducible apply wpList_loadAll HO); exact rfl; exact rfl; (repeat (with_reducible (first | exact At.head _ | apply At.tail))); infer_instance; exact rfl; exact rfl; (simp only [Act.put, zA, zB, zC])) | ((with_reducible apply wpList_loadOne HO); exact rfl; exact rfl; (repeat (with_reducible (first | exact At.head _ | apply At.tail))); exact rfl; infer_instance; exact rfl; (simp only [Act.put, zA, zB, zC]))) | ((with_reducible apply wpList_storeAll HO); exact rfl; exact rfl; exact rfl; (repeat (with_reducible (first | exact At.head _ | apply At.tail))); infer_instance; exact rfl; exact rfl; exact rfl; exact rfl; clear HO; intro w HO; (simp only [Act.put])) | ((have _h : Own W _ (box _ _ :: box _ _ :: box _ _ :: _) := HO); clear _h; (first | ((with_reducible apply wpList_boxAgg _ HO rfl); exact rfl; exact rfl; exact rfl; clear HO; intro b3 w HO; (simp only [Act.put, zA, zB, zC])) | ((with_reducible apply wpList_allocAgg _ HO rfl); exact rfl; infer_instance; exact rfl; clear HO; intro b3 w HO; (simp only [Act.put, zA, zB, zC])))) | ((have _h : Own W _ (box _ _ :: box _ _ :: _) := HO); clear _h; (first | ((with_reducible apply wpList_boxAgg _ HO rfl); exact rfl; exact rfl; exact rfl; clear HO; intro b2 w HO; (simp only [Act.put, zA, zB, zC])) | ((with_reducible apply wpList_allocAgg _ HO rfl); exact rfl; infer_instance; exact rfl; clear HO; intro b2 w HO; (simp only [Act.put, zA, zB, zC])))) | (first | ((with_reducible apply wpList_boxAgg _ HO rfl); exact rfl; exact rfl; exact rfl; clear HO; intro b1 w HO; (simp only [Act.put, zA, zB, zC])) | ((with_reducible apply wpList_allocAgg _ HO rfl); exact rfl; infer_instance; exact rfl; clear HO; intro b1 w HO; (simp only [Act.put, zA, zB, zC]))) | (go_at_call 36; go_must ((with_reducible refine (OR0.out _ _ HO (by repeat (first | exact List.mem_cons_self | apply List.mem_cons_of_mem)) (by repeat (first | exact List.mem_cons_self | apply List.mem_cons_of_mem)) (by repeat (first | exact List.mem_cons_self | apply List.mem_cons_of_mem))).mono ?_); rintro e w ⟨rfl, hb⟩; replace HO := HO.call hb; clear hb)) | (go_at_call 128; go_must ((with_reducible refine (RP _).mono ?_); rintro e w ⟨rfl, hb⟩; replace HO := HO.call hb; clear hb)))
      refine region_sched2 ([box b3 (.cells #[.int .i64 o.id, .string ⟨o.ref.toArray⟩, .string ⟨o.sku.toArray⟩, .int .i64 o.qty, .int .i64 o.amt, .int .i64 t.a, .int .i64 t.b, .int .i64 t.c, .int .i64 t.d, .int .i64 t.e, .int .i64 t.f, .bool t.x] 72), box b1 (.cells #[.int .i64 id, .int .i64 d] 29), box ac (.cells #[.slice (some q) S.L.length c, .pointer (some ⟨ak, 0, none⟩), .int .i64 A.p0, .int .i64 A.q0, i.v0, .int .i64 A.p1, .int .i64 A.q1, i.v1, .int .i64 A.p2, .int .i64 A.q2, i.v2, i.m] 143)]) [(0, true), (1, true), (2, true), (3, true), (4, true), (5, true), (6, true), (7, true), (8, true), (9, false)] HO (by with_reducible (repeat (first | exact List.nil_sublist _ | apply List.Sublist.cons_cons | apply List.Sublist.cons))) (by kernel_rfl) (by kernel_rfl) ?_
      clear HO
      intro w HO
      repeat (first | ((with_reducible apply wpSched_loadOne); exact rfl; exact rfl; exact rfl; (repeat (with_reducible (first | exact At.head _ | apply At.tail))); exact rfl; infer_instance; exact rfl; (simp only [Act.put, zA, zB, zC])) | ((with_reducible apply wpSched_loadAll); exact rfl; exact rfl; exact rfl; (repeat (with_reducible (first | exact At.head _ | apply At.tail))); infer_instance; exact rfl; exact rfl; (simp only [Act.put, zA, zB, zC])) | ((with_reducible apply wpSched_pure); exact rfl; exact rfl; (intro w'; go_simp; try with_reducible rfl); (simp only [Act.put, zA, zB, zC])))
      ((with_reducible apply wpSched_loud); exact rfl; ((with_reducible apply wpList_storeRow HO); exact rfl; exact rfl; (first | (simp [Act.eval]; rfl) | exact rfl); exact rfl; (repeat (with_reducible (first | exact At.head _ | apply At.tail))); exact (hsl.out); (simp; omega); exact rfl; infer_instance; exact rfl; exact rfl; clear HO; intro w HO; (simp only [Act.put])))
      refine wpList_nil (thenQ_free (by kernel_rfl) ?_)
      refine wpSched_end ?_
      go_upto_region 8 with fail
      refine region_own HO (by kernel_rfl) (by kernel_rfl) ?_
      clear HO
      intro F HF
      repeat (first | (first | go_big_quiet_skip | ((with_reducible apply wpQuiet_loadAll HF); exact rfl; exact rfl; (repeat (with_reducible (first | exact At.head _ | apply At.tail))); infer_instance; exact rfl; exact rfl; (simp only [Act.put, zA, zB, zC])) | ((with_reducible apply wpQuiet_loadOne HF); exact rfl; exact rfl; (repeat (with_reducible (first | exact At.head _ | apply At.tail))); exact rfl; infer_instance; exact rfl; (simp only [Act.put, zA, zB, zC])) | ((with_reducible apply wpQuiet_loadPart HF); exact rfl; exact rfl; (repeat (with_reducible (first | exact At.head _ | apply At.tail))); infer_instance; exact (Nat.le_of_ble_eq_true rfl); (simp only [List.drop_succ_cons, List.drop_zero, List.take_succ_cons, List.take_zero]; rfl); exact rfl; (simp only [Act.put, zA, zB, zC]))) | go_big_quiet_step ((go_at_call 74; first | (with_reducible exact calls_fam HF (NT _)) | (with_reducible exact calls_fam HF (NS _)))))
      refine wpQuiet_nil ?_
      intro x
      have HO := HF.own x
      clear HF
      generalize F x = w at *
      clear x F
      by_cases c1 : 0 < nt - ns
      · have c1' : 0 < nt - ns := c1
        rw [if_pos c1] at HR
        obtain rfl := HR.out
        have PO := PO1 (nt - ns) (inI_iff.2 (by omega))
        clear HR PO1 PO2 wp1 wp2
        go_upto_region 10 with fail
        refine region_sched2 ([box b1 (.cells #[.int .i64 id, .int .i64 d] 29), box ac (.cells #[.slice (some q) S.L.length c, .pointer (some ⟨ak, 0, none⟩), .int .i64 A.p0, .int .i64 A.q0, i.v0, .int .i64 A.p1, .int .i64 A.q1, i.v1, .int .i64 A.p2, .int .i64 A.q2, i.v2, i.m] 143)]) [(0, true), (1, true), (2, true), (3, true), (4, true), (6, true), (7, true), (8, true), (5, false), (9, true), (10, false)] HO (by with_reducible (repeat (first | exact List.nil_sublist _ | apply List.Sublist.cons_cons | apply List.Sublist.cons))) (by kernel_rfl) (by kernel_rfl) ?_
        clear HO
        intro w HO
        repeat (first | ((with_reducible apply wpSched_loadOne); exact rfl; exact rfl; exact rfl; (repeat (with_reducible (first | exact At.head _ | apply At.tail))); exact rfl; infer_instance; exact rfl; (simp only [Act.put, zA, zB, zC])) | ((with_reducible apply wpSched_loadAll); exact rfl; exact rfl; exact rfl; (repeat (with_reducible (first | exact At.head _ | apply At.tail))); infer_instance; exact rfl; exact rfl; (simp only [Act.put, zA, zB, zC])) | ((with_reducible apply wpSched_pure); exact rfl; exact rfl; (intro w'; go_simp; try with_reducible rfl); (simp only [Act.put, zA, zB, zC])))
        ((with_reducible apply wpSched_loud); exact rfl; go_wp2_with ((go_at_call 129; go_must ((with_reducible refine (KP _ HO.grown).mono ?_); rintro e w ⟨rfl, hb⟩; replace HO := HO.call hb; clear hb))))
        refine thenQ_keep (HO.held (by with_reducible (repeat (first | exact List.nil_sublist _ | apply List.Sublist.cons_cons | apply List.Sublist.cons)))) ?_
        repeat (first | ((with_reducible apply wpSched_loadOne); exact rfl; exact rfl; exact rfl; (repeat (with_reducible (first | exact At.head _ | apply At.tail))); exact rfl; infer_instance; exact rfl; (simp only [Act.put, zA, zB, zC])) | ((with_reducible apply wpSched_loadAll); exact rfl; exact rfl; exact rfl; (repeat (with_reducible (first | exact At.head _ | apply At.tail))); infer_instance; exact rfl; exact rfl; (simp only [Act.put, zA, zB, zC])) | ((with_reducible apply wpSched_pure); exact rfl; exact rfl; (intro w'; go_simp; try with_reducible rfl); (simp only [Act.put, zA, zB, zC])))
        ((with_reducible apply wpSched_loud); exact rfl; go_wp2_with ((go_at_call 111; go_must ((have h9 := PO _ _ _ HO (by intro v9; (repeat (with_reducible (first | exact At.head _ | apply At.tail))))); (with_reducible refine h9.mono ?_); clear h9 HO; rintro e w ⟨rfl, u9, HO⟩))))
        refine thenQ_free (by kernel_rfl) ?_
        refine wpSched_end ?_
        go_wp2_with fail
        go_ret
        refine ⟨rfl, u9, ?_⟩
        unfold coPs coC
        rw [hset.out]
        exact (HO.tail).tail.tail
      rw [if_neg c1] at HR
      by_cases c2 : nt - ns < 0
      · rw [if_pos c2] at HR
        obtain rfl := HR.out
        have PO := PO2 (-(nt - ns)) (inI_iff.2 (by omega))
        clear HR PO1 PO2 wp1 wp2
        go_upto_region 12 with fail
        refine region_sched2 ([box b1 (.cells #[.int .i64 id, .int .i64 d] 29), box ac (.cells #[.slice (some q) S.L.length c, .pointer (some ⟨ak, 0, none⟩), .int .i64 A.p0, .int .i64 A.q0, i.v0, .int .i64 A.p1, .int .i64 A.q1, i.v1, .int .i64 A.p2, .int .i64 A.q2, i.v2, i.m] 143)]) [(0, true), (1, true), (2, true), (3, true), (4, true), (6, true), (7, true), (8, true), (9, true), (5, false), (10, true), (11, false)] HO (by with_reducible (repeat (first | exact List.nil_sublist _ | apply List.Sublist.cons_cons | apply List.Sublist.cons))) (by kernel_rfl) (by kernel_rfl) ?_
        clear HO
        intro w HO
        repeat (first | ((with_reducible apply wpSched_loadOne); exact rfl; exact rfl; exact rfl; (repeat (with_reducible (first | exact At.head _ | apply At.tail))); exact rfl; infer_instance; exact rfl; (simp only [Act.put, zA, zB, zC])) | ((with_reducible apply wpSched_loadAll); exact rfl; exact rfl; exact rfl; (repeat (with_reducible (first | exact At.head _ | apply At.tail))); infer_instance; exact rfl; exact rfl; (simp only [Act.put, zA, zB, zC])) | ((with_reducible apply wpSched_pure); exact rfl; exact rfl; (intro w'; go_simp; try with_reducible rfl); (simp only [Act.put, zA, zB, zC])))
        ((with_reducible apply wpSched_loud); exact rfl; go_wp2_with ((go_at_call 129; go_must ((with_reducible refine (KP _ HO.grown).mono ?_); rintro e w ⟨rfl, hb⟩; replace HO := HO.call hb; clear hb))))
        refine thenQ_keep (HO.held (by with_reducible (repeat (first | exact List.nil_sublist _ | apply List.Sublist.cons_cons | apply List.Sublist.cons)))) ?_
        repeat (first | ((with_reducible apply wpSched_loadOne); exact rfl; exact rfl; exact rfl; (repeat (with_reducible (first | exact At.head _ | apply At.tail))); exact rfl; infer_instance; exact rfl; (simp only [Act.put, zA, zB, zC])) | ((with_reducible apply wpSched_loadAll); exact rfl; exact rfl; exact rfl; (repeat (with_reducible (first | exact At.head _ | apply At.tail))); infer_instance; exact rfl; exact rfl; (simp only [Act.put, zA, zB, zC])) | ((with_reducible apply wpSched_pure); exact rfl; exact rfl; (intro w'; go_simp; try with_reducible rfl); (simp only [Act.put, zA, zB, zC])))
        ((with_reducible apply wpSched_loud); exact rfl; go_wp2_with ((go_at_call 111; go_must ((have h9 := PO _ _ _ HO (by intro v9; (repeat (with_reducible (first | exact At.head _ | apply At.tail))))); (with_reducible refine h9.mono ?_); clear h9 HO; rintro e w ⟨rfl, u9, HO⟩))))
        refine thenQ_free (by kernel_rfl) ?_
        refine wpSched_end ?_
        go_wp2_with fail
        go_ret
        refine ⟨rfl, u9, ?_⟩
        unfold coPs coC
        rw [hset.out]
        exact (HO.tail).tail.tail
      · rw [if_neg c2] at HR
        obtain rfl := HR.out
        go_wp2_with fail
        go_ret
        refine ⟨rfl, au, ?_⟩
        unfold coPs coC
        rw [hset.out]
        exact (HO.tail).tail.tail
end Go.Proofs.YtibabfedpdoofaaGreatDoor
namespace Go.Proofs.YtibabfedpdoofaaGreatDoor
open Go.RowKit Go.Own Go.Maps

/-- Rows that stand in old memory, or in some pieces of one's own. -/
def RowsIn (W : World) (M : List Ent) (v : Value) (rs : List RowS) : Prop := ∀ (w' : World) (L' : List Ent), Own W w' L' → (∀ e ∈ M, e ∈ L') → IsRows w' v rs
theorem RowsIn.old {W : World} {v : Value} {rs : List RowS} (h : IsRows W v rs) (M : List Ent) : RowsIn W M v rs := fun _ _ hO _ => h.below hO.grown h.lt
theorem RowsIn.more {W : World} {M : List Ent} {v : Value} {rs : List RowS} (h : RowsIn W M v rs) (Z : Ent) : RowsIn W (Z :: M) v rs := fun w' L' hO hm => h w' L' hO (fun e he => hm e (List.mem_cons_of_mem _ he))
/-- What a statement's posting is called. -/
def sidK (q o : Int) : ByteArray := ⟨#[115]⟩ ++ ⟨(Lib.itoa q).toArray⟩ ++ ⟨#[45]⟩ ++ ⟨(Lib.itoa o).toArray⟩
def stPst (q o x : Int) : Pst := if x < 0 then ⟨sidK q o, o, 1, 2, -x⟩ else ⟨sidK q o, o, 2, 1, x⟩
def stmtP (P : List Pst) (f : Int → Int) (q : Int) : Nat → List Pst
  | 0 => P
  | k + 1 => if f ((k : Int) + 1) = 0 then stmtP P f q k else postL (stmtP P f q k) (stPst q ((k : Int) + 1) (f ((k : Int) + 1)))
def byI (A B : InS) (o : Int) : Int := netI B o - netI A o
theorem sidK_size {q o : Int} (h0 : 0 ≤ q) (h1 : q ≤ 1073741824) (h2 : 0 ≤ o) (h3 : o ≤ 1000) : (sidK q o).size ≤ 60 := by
  have h4 : (Lib.itoa q).length ≤ 21 := Lib.itoa_length_le q (by omega) (by omega)
  have h5 : (Lib.itoa o).length ≤ 21 := Lib.itoa_length_le o (by omega) (by omega)
  unfold sidK
  rw [ByteArray.size_append, ByteArray.size_append, ByteArray.size_append]
  show 1 + (Lib.itoa q).length + 1 + (Lib.itoa o).length ≤ 60
  omega
theorem stmtP_ok {P : List Pst} (h : Bk P) (f : Int → Int) (q : Int) : ∀ k, Bk (stmtP P f q k) ∧ (stmtP P f q k).length ≤ P.length + k
  | 0 => ⟨h, by simp [stmtP]⟩
  | k + 1 => by
    obtain ⟨h1, h2⟩ := stmtP_ok h f q k
    unfold stmtP
    split
    · exact ⟨h1, by omega⟩
    · refine ⟨h1.post _, ?_⟩
      have : ∀ (l : List Pst) p, (postL l p).length ≤ l.length + 1 := fun l p => by
        unfold postL
        split
        · simp
        · omega
      have := this (stmtP P f q k) (stPst q ((k : Int) + 1) (f ((k : Int) + 1)))
      omega
theorem netI_bound {A : InS} (h : InOk A) (o : Int) : -1099511627776 ≤ netI A o ∧ netI A o ≤ 1099511627776 := by
  have h1 := rowOf_bound h o 1
  have h4 := rowOf_bound h o 4
  unfold netI
  omega
/-- An intake with a statement, taken of the pieces of the one ahead. -/
def inAcc (i : InA) (p : Int) (u m : Value) : InA := ⟨if p = 0 then u else i.v0, if p = 1 then u else i.v1, if p = 2 then u else i.v2, m⟩
noncomputable def accK (i : InA) (A : InS) (b n : Nat) (g : Lit → Option Value) (u : Value) (rs : List RowS) : List Ent := [mapE Tryz.prog 29 b n g, row 160 5 u (rs.map rowC), isl 5 i.v0 (A.r0.map rowC), isl 5 i.v1 (A.r1.map rowC), isl 5 i.v2 (A.r2.map rowC), mapM i.m (allF A)]
/-- What these pieces say of both. -/
structure BothAt (w : World) (x i : InA) (B A : InS) : Prop where
  x0 : IsRows w x.v0 B.r0
  x1 : IsRows w x.v1 B.r1
  x2 : IsRows w x.v2 B.r2
  xm : MapIs x.m (allF B) w
  i0 : IsRows w i.v0 A.r0
  i1 : IsRows w i.v1 A.r1
  i2 : IsRows w i.v2 A.r2
  im : MapIs i.m (allF A) w
theorem accK_at {w : World} {i : InA} {A : InS} {b n : Nat} {u : Value} {p q : Int} {rs : List RowS} (hp : p = 0 ∨ p = 1 ∨ p = 2) (h : ∀ e ∈ accK i A b n (allF (A.put p q rs)) u rs, e.F w) : BothAt w (inAcc i p u (.map (some b))) i (A.put p q rs) A := by
  have hm := h _ (.head _)
  have hu : IsRows w u rs := isRows_of_isL (isL_of_owns (rowC_len rs) (h _ (.tail _ (.head _))))
  have g0 : IsRows w i.v0 A.r0 := isRows_of_isL (h _ (.tail _ (.tail _ (.head _))))
  have g1 : IsRows w i.v1 A.r1 := isRows_of_isL (h _ (.tail _ (.tail _ (.tail _ (.head _)))))
  have g2 : IsRows w i.v2 A.r2 := isRows_of_isL (h _ (.tail _ (.tail _ (.tail _ (.tail _ (.head _))))))
  have gm := h _ (.tail _ (.tail _ (.tail _ (.tail _ (.tail _ (.head _))))))
  rcases hp with rfl | rfl | rfl
  · exact ⟨hu, g1, g2, .inr ⟨b, n, rfl, hm⟩, g0, g1, g2, gm⟩
  · exact ⟨g0, hu, g2, .inr ⟨b, n, rfl, hm⟩, g0, g1, g2, gm⟩
  · exact ⟨g0, g1, hu, .inr ⟨b, n, rfl, hm⟩, g0, g1, g2, gm⟩
theorem accK_end {W w : World} {i : InA} {A : InS} {b n : Nat} {u : Value} {p q : Int} {rs : List RowS} {x y z : Ent} {M : List Ent} (hp : p = 0 ∨ p = 1 ∨ p = 2) (h : Own W w (x :: y :: z :: (accK i A b n (allF (A.put p q rs)) u rs ++ M))) : Own W w (x :: y :: z :: (inPs (inAcc i p u (.map (some b))) (A.put p q rs) ++ M)) := by
  unfold accK at h
  simp only [List.cons_append, List.nil_append] at h
  have h1 := Own.rowIsl (Own.mapIsM h (.tail _ _ _ (.tail _ _ _ (.tail _ _ _ (.head _))))) (.tail _ _ _ (.tail _ _ _ (.tail _ _ _ (.tail _ _ _ (.head _)))))
  have h2 := Own.sub h1 (L' := x :: y :: z :: mapM (.map (some b)) (allF (A.put p q rs)) :: isl 5 u (rs.map rowC) :: isl 5 i.v0 (A.r0.map rowC) :: isl 5 i.v1 (A.r1.map rowC) :: isl 5 i.v2 (A.r2.map rowC) :: M) (.cons_cons _ (.cons_cons _ (.cons_cons _ (.cons_cons _ (.cons_cons _ (.cons_cons _ (.cons_cons _ (.cons_cons _ (.cons _ (List.Sublist.refl _))))))))))
  have h3 := h2.perm (((List.perm_append_comm (l₁ := [mapM (.map (some b)) (allF (A.put p q rs))]) (l₂ := [isl 5 u (rs.map rowC), isl 5 i.v0 (A.r0.map rowC), isl 5 i.v1 (A.r1.map rowC), isl 5 i.v2 (A.r2.map rowC)])).append_right M).cons z |>.cons y |>.cons x)
  simp only [List.cons_append, List.nil_append] at h3
  unfold inPs
  simp only [List.cons_append, List.nil_append]
  rcases hp with rfl | rfl | rfl
  · exact h3.sub (.cons_cons _ (.cons_cons _ (.cons_cons _ (.cons_cons _ (.cons _ (List.Sublist.refl _))))))
  · exact (h3.sub (.cons_cons _ (.cons_cons _ (.cons_cons _ (.cons_cons _ (.cons_cons _ (.cons _ (List.Sublist.refl _)))))))).perm ((List.Perm.swap _ _ _).cons _ |>.cons _ |>.cons _)
  · exact (h3.sub (.cons_cons _ (.cons_cons _ (.cons_cons _ (.cons_cons _ (.cons_cons _ (.cons_cons _ (.cons _ (List.Sublist.refl _))))))))).perm (((List.Perm.swap _ _ _).trans ((List.Perm.swap _ _ _).cons _)).cons _ |>.cons _ |>.cons _)

set_option maxHeartbeats 32000000 in
set_option maxRecDepth 100000 in
theorem coStmt_no {W w : World} {M : List Ent} {a : CoA} {S : CoS} {i : InA} {A : InS} {v : Value} (p q : Int) (rs : List RowS) (HO : Own W w (coPs a S i A ++ (inPs i A ++ M))) (hrs : RowsIn W M v rs) (hA : InOk A) (hL : LaidE W) (hacc : accE A p q rs ≠ 0) :
    Calls Tryz.prog 82 #[.pointer (some ⟨a.c, 0, none⟩), .agg #[.int .i64 p, .int .i64 q, v]] w fun e w' => e = .returned (.int .i64 (accE A p q rs)) ∧ Own W w' (coPs a S i A ++ (inPs i A ++ M)) := by
  obtain ⟨ac, av, ak, au, apm, abm⟩ := a
  obtain ⟨v0, v1, v2, m⟩ := i
  have hsl := (hrs _ _ HO (fun e he => List.mem_append_right _ (List.mem_append_right _ he))).slice
  have AC := Lib.hid (fun (w : World) (L : List Ent) (h : Own W w L) (h0 : isl 5 v0 (A.r0.map rowC) ∈ L) (h1 : isl 5 v1 (A.r1.map rowC) ∈ L) (h2 : isl 5 v2 (A.r2.map rowC) ∈ L) (hm : mapM m (allF A) ∈ L) (hM : ∀ e ∈ M, e ∈ L) => show Calls Tryz.prog 130 #[.agg #[.int .i64 (A).p0, .int .i64 (A).q0, v0, .int .i64 (A).p1, .int .i64 (A).q1, v1, .int .i64 (A).p2, .int .i64 (A).q2, v2, m], .agg #[.int .i64 p, .int .i64 q, v]] w fun e w' => e = .returned (.tuple #[.agg #[.int .i64 0, .int .i64 0, .slice none 0 0, .int .i64 0, .int .i64 0, .slice none 0 0, .int .i64 0, .int .i64 0, .slice none 0 0, .map none], .int .i64 (accE A p q rs)]) ∧ Below w.heap.size w w' from by
    refine (accept_any A p q rs (isRows_of_isL (h.has _ h0)) (isRows_of_isL (h.has _ h1)) (isRows_of_isL (h.has _ h2)) (hrs w L h hM) hA (h.has _ hm).form (hL.p.below h.grown hL.p.1)).mono ?_
    intro e w' he
    unfold AccPost at he
    rw [if_neg hacc] at he
    exact he)
  unfold coPs coC inPs at HO
  simp only [List.cons_append, List.nil_append] at HO
  obtain ⟨s0, c0, rfl, -⟩ := hsl
  unfold coPs coC inPs
  simp only [List.cons_append, List.nil_append]
  generalize accE A p q rs = ex at *
  go_enter Tryz.func82, Tryz.ntmps82
  go_upto_region 1 with (first | go_big_skip | (first | go_big_skip | ((with_reducible apply wpList_loadAll HO); exact rfl; exact rfl; (repeat (with_reducible (first | exact At.head _ | apply At.tail))); infer_instance; exact rfl; exact rfl; (simp only [Act.put, zA, zB, zC])) | ((with_reducible apply wpList_loadOne HO); exact rfl; exact rfl; (repeat (with_reducible (first | exact At.head _ | apply At.tail))); exact rfl; infer_instance; exact rfl; (simp only [Act.put, zA, zB, zC]))) | ((with_reducible apply wpList_storeAll HO); exact rfl; exact rfl; exact rfl; (repeat (with_reducible (first | exact At.head _ | apply At.tail))); infer_instance; exact rfl; exact rfl; exact rfl; exact rfl; clear HO; intro w HO; (simp only [Act.put])) | (first | ((with_reducible apply wpList_boxAgg _ HO rfl); exact rfl; exact rfl; exact rfl; clear HO; intro b1 w HO; (simp only [Act.put, zA, zB, zC])) | ((with_reducible apply wpList_allocAgg _ HO rfl); exact rfl; infer_instance; exact rfl; clear HO; intro b1 w HO; (simp only [Act.put, zA, zB, zC]))))
  go_cut [5, 6] (fun x e wx => ∃ b5, x = .pointer (some ⟨b5, 0, none⟩) ∧ e = .int .i64 ex ∧ Own W wx (box b5 (.cells #[.int .i64 0, .int .i64 0, .slice none 0 0, .int .i64 0, .int .i64 0, .slice none 0 0, .int .i64 0, .int .i64 0, .slice none 0 0, .map none] 141) :: box b1 (.cells #[.int .i64 p, .int .i64 q, .slice s0 rs.length c0] 32) ::
    box ac (.cells #[av, .pointer (some ⟨ak, 0, none⟩), .int .i64 A.p0, .int .i64 A.q0, v0, .int .i64 A.p1, .int .i64 A.q1, v1, .int .i64 A.p2, .int .i64 A.q2, v2, m] 143) :: row 72 12 av (S.L.map sagaL) :: bkE ak au apm abm S.P :: isl 5 v0 (A.r0.map rowC) :: isl 5 v1 (A.r1.map rowC) :: isl 5 v2 (A.r2.map rowC) :: mapM m (allF A) :: M))
  case first =>
      refine region_tree [box b1 (.cells #[.int .i64 p, .int .i64 q, .slice s0 rs.length c0] 32), box ac (.cells #[av, .pointer (some ⟨ak, 0, none⟩), .int .i64 A.p0, .int .i64 A.q0, v0, .int .i64 A.p1, .int .i64 A.q1, v1, .int .i64 A.p2, .int .i64 A.q2, v2, m] 143)] [(0, true), (1, true), (2, true), (3, true), (4, true), (6, true), (7, true), (8, true), (11, true)] (.fork [(0, true), (1, true), (2, true), (3, true), (4, true)] 5 9 (.fin [(6, true), (7, true), (8, true), (9, false), (10, false), (11, true)]) (.fin [(5, false), (6, true), (7, true), (8, true), (10, false), (11, true)])) HO (by with_reducible (repeat (first | exact List.nil_sublist _ | apply List.Sublist.cons_cons | apply List.Sublist.cons))) (by kernel_rfl) (by kernel_rfl) ?_
      clear HO
      intro w HO
      refine wpS_fork ?_
      repeat (first | ((with_reducible apply wpSched_loadAll); exact rfl; exact rfl; exact rfl; (repeat (with_reducible (first | exact At.head _ | apply At.tail))); infer_instance; exact rfl; exact rfl; (simp only [Act.put, zA, zB, zC])) | ((with_reducible apply wpSched_loadOne); exact rfl; exact rfl; exact rfl; (repeat (with_reducible (first | exact At.head _ | apply At.tail))); exact rfl; infer_instance; exact rfl; (simp only [Act.put, zA, zB, zC])) | ((with_reducible apply wpSched_loadPart); exact rfl; exact rfl; (first | (simp [Act.eval]; rfl) | exact rfl); (repeat (with_reducible (first | exact At.head _ | apply At.tail))); infer_instance; exact (Nat.le_of_ble_eq_true rfl); (simp only [List.drop_succ_cons, List.drop_zero, List.take_succ_cons, List.take_zero]; rfl); exact rfl; (simp only [Act.put, zA, zB, zC])) | ((with_reducible apply wpSched_pure); exact rfl; exact rfl; (intro w'; go_simp; try with_reducible rfl); (simp only [Act.put, zA, zB, zC])))
      refine fork_end rfl rfl ?_ ?_
      · go_wp2_with ((go_at_call 130; go_must ((with_reducible refine (AC.out _ _ HO (by repeat (first | exact List.mem_cons_self | apply List.mem_cons_of_mem)) (by repeat (first | exact List.mem_cons_self | apply List.mem_cons_of_mem)) (by repeat (first | exact List.mem_cons_self | apply List.mem_cons_of_mem)) (by repeat (first | exact List.mem_cons_self | apply List.mem_cons_of_mem)) (by intro e he; repeat (first | exact he | apply List.mem_cons_of_mem))).mono ?_); rintro e w ⟨rfl, hb⟩; replace HO := HO.call hb; clear hb)))
        refine thenQ_keep (HO.held (by with_reducible (repeat (first | exact List.nil_sublist _ | apply List.Sublist.cons_cons | apply List.Sublist.cons)))) ?_
        refine wpS_fin ?_
        repeat (first | ((with_reducible apply wpSched_loadAll); exact rfl; exact rfl; exact rfl; (repeat (with_reducible (first | exact At.head _ | apply At.tail))); infer_instance; exact rfl; exact rfl; (simp only [Act.put, zA, zB, zC])) | ((with_reducible apply wpSched_loadOne); exact rfl; exact rfl; exact rfl; (repeat (with_reducible (first | exact At.head _ | apply At.tail))); exact rfl; infer_instance; exact rfl; (simp only [Act.put, zA, zB, zC])) | ((with_reducible apply wpSched_loadPart); exact rfl; exact rfl; (first | (simp [Act.eval]; rfl) | exact rfl); (repeat (with_reducible (first | exact At.head _ | apply At.tail))); infer_instance; exact (Nat.le_of_ble_eq_true rfl); (simp only [List.drop_succ_cons, List.drop_zero, List.take_succ_cons, List.take_zero]; rfl); exact rfl; (simp only [Act.put, zA, zB, zC])) | ((with_reducible apply wpSched_pure); exact rfl; exact rfl; (intro w'; go_simp; try with_reducible rfl); (simp only [Act.put, zA, zB, zC])))
        ((with_reducible apply wpSched_loud); exact rfl; (first | ((with_reducible apply wpList_boxAgg _ HO rfl); exact rfl; exact rfl; exact rfl; clear HO; intro b5 w HO; (simp only [Act.put, zA, zB, zC])) | ((with_reducible apply wpList_allocAgg _ HO rfl); exact rfl; infer_instance; exact rfl; clear HO; intro b5 w HO; (simp only [Act.put, zA, zB, zC])) | ((with_reducible apply wpList_boxOne _ HO rfl); exact rfl; (first | (simp [Act.eval]; rfl) | exact rfl); exact rfl; exact rfl; clear HO; intro b5 w HO; (simp only [Act.put, zA, zB, zC])) | ((with_reducible apply wpList_alloc _ HO rfl); exact rfl; infer_instance; exact rfl; exact rfl; clear HO; intro b5 w HO; (simp only [Act.put, zA, zB, zC]))))
        refine wpList_nil (thenQ_keep (HO.held (by with_reducible (repeat (first | exact List.nil_sublist _ | apply List.Sublist.cons_cons | apply List.Sublist.cons)))) ?_)
        ((with_reducible apply wpSched_loud); exact rfl; ((with_reducible apply wpList_storeAll HO); exact rfl; exact rfl; exact rfl; (repeat (with_reducible (first | exact At.head _ | apply At.tail))); infer_instance; exact rfl; exact rfl; exact rfl; exact rfl; clear HO; intro w HO; (simp only [Act.put])))
        refine wpList_nil (thenQ_keep (HO.held (by with_reducible (repeat (first | exact List.nil_sublist _ | apply List.Sublist.cons_cons | apply List.Sublist.cons)))) ?_)
        repeat ((with_reducible apply wpSched_pure); exact rfl; exact rfl; (intro w'; go_simp; try with_reducible rfl); (simp only [Act.put, zA, zB, zC]))
        refine wpSched_end ?_
        go_wp2_with fail
        go_meet
        exact ⟨b5, rfl, rfl, HO⟩
      · (first | ((with_reducible apply wpList_boxAgg _ HO rfl); exact rfl; exact rfl; exact rfl; clear HO; intro b5 w HO; (simp only [Act.put, zA, zB, zC])) | ((with_reducible apply wpList_allocAgg _ HO rfl); exact rfl; infer_instance; exact rfl; clear HO; intro b5 w HO; (simp only [Act.put, zA, zB, zC])) | ((with_reducible apply wpList_boxOne _ HO rfl); exact rfl; (first | (simp [Act.eval]; rfl) | exact rfl); exact rfl; exact rfl; clear HO; intro b5 w HO; (simp only [Act.put, zA, zB, zC])) | ((with_reducible apply wpList_alloc _ HO rfl); exact rfl; infer_instance; exact rfl; exact rfl; clear HO; intro b5 w HO; (simp only [Act.put, zA, zB, zC])))
        refine wpList_nil (thenQ_keep (HO.held (by with_reducible (repeat (first | exact List.nil_sublist _ | apply List.Sublist.cons_cons | apply List.Sublist.cons)))) ?_)
        refine wpS_fin ?_
        ((with_reducible apply wpSched_loud); exact rfl; go_wp2_with ((go_at_call 130; go_must ((with_reducible refine (AC.out _ _ HO (by repeat (first | exact List.mem_cons_self | apply List.mem_cons_of_mem)) (by repeat (first | exact List.mem_cons_self | apply List.mem_cons_of_mem)) (by repeat (first | exact List.mem_cons_self | apply List.mem_cons_of_mem)) (by repeat (first | exact List.mem_cons_self | apply List.mem_cons_of_mem)) (by intro e he; repeat (first | exact he | apply List.mem_cons_of_mem))).mono ?_); rintro e w ⟨rfl, hb⟩; replace HO := HO.call hb; clear hb))))
        refine thenQ_keep (HO.held (by with_reducible (repeat (first | exact List.nil_sublist _ | apply List.Sublist.cons_cons | apply List.Sublist.cons)))) ?_
        repeat (first | ((with_reducible apply wpSched_loadAll); exact rfl; exact rfl; exact rfl; (repeat (with_reducible (first | exact At.head _ | apply At.tail))); infer_instance; exact rfl; exact rfl; (simp only [Act.put, zA, zB, zC])) | ((with_reducible apply wpSched_loadOne); exact rfl; exact rfl; exact rfl; (repeat (with_reducible (first | exact At.head _ | apply At.tail))); exact rfl; infer_instance; exact rfl; (simp only [Act.put, zA, zB, zC])) | ((with_reducible apply wpSched_loadPart); exact rfl; exact rfl; (first | (simp [Act.eval]; rfl) | exact rfl); (repeat (with_reducible (first | exact At.head _ | apply At.tail))); infer_instance; exact (Nat.le_of_ble_eq_true rfl); (simp only [List.drop_succ_cons, List.drop_zero, List.take_succ_cons, List.take_zero]; rfl); exact rfl; (simp only [Act.put, zA, zB, zC])) | ((with_reducible apply wpSched_pure); exact rfl; exact rfl; (intro w'; go_simp; try with_reducible rfl); (simp only [Act.put, zA, zB, zC])))
        ((with_reducible apply wpSched_loud); exact rfl; ((with_reducible apply wpList_storeAll HO); exact rfl; exact rfl; exact rfl; (repeat (with_reducible (first | exact At.head _ | apply At.tail))); infer_instance; exact rfl; exact rfl; exact rfl; exact rfl; clear HO; intro w HO; (simp only [Act.put])))
        refine wpList_nil (thenQ_keep (HO.held (by with_reducible (repeat (first | exact List.nil_sublist _ | apply List.Sublist.cons_cons | apply List.Sublist.cons)))) ?_)
        repeat ((with_reducible apply wpSched_pure); exact rfl; exact rfl; (intro w'; go_simp; try with_reducible rfl); (simp only [Act.put, zA, zB, zC]))
        refine wpSched_end ?_
        go_wp2_with fail
        go_meet
        exact ⟨b5, rfl, rfl, HO⟩

  clear HO
  obtain ⟨b5, rfl, rfl, HO⟩ := hcut
  have hex : (ex != 0) = true := by simpa using hacc
  go_wp2_with (first | go_big_skip | (first | go_big_skip | ((with_reducible apply wpList_loadAll HO); exact rfl; exact rfl; (repeat (with_reducible (first | exact At.head _ | apply At.tail))); infer_instance; exact rfl; exact rfl; (simp only [Act.put, zA, zB, zC])) | ((with_reducible apply wpList_loadOne HO); exact rfl; exact rfl; (repeat (with_reducible (first | exact At.head _ | apply At.tail))); exact rfl; infer_instance; exact rfl; (simp only [Act.put, zA, zB, zC]))))
  go_ret
  exact ⟨rfl, HO.tail.tail⟩
end Go.Proofs.YtibabfedpdoofaaGreatDoor

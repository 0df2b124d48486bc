/-
  What bits.Var and its kin compute, by walking their text; conditions: numbers below 2^63.
-/
import Derived.Test.YtlfphfklcifgpaaDoorRows
import Derived.Test.YtlfphfklcifgpaaDoorBase
namespace Go.Proofs.YtlfphfklcifgpaaDoor
open Go.RowKit Go.Own

def varF : Nat → Nat → List UInt8
  | 0, _ => []
  | k + 1, m => if m < 128 then [UInt8.ofNat m] else UInt8.ofNat (m % 128 + 128) :: varF k (m / 128)

def VarInv (N m : Nat) (l : List UInt8) : Prop := m < 128 ^ (10 - l.length) ∧ l.length ≤ 9 ∧ l ++ varF (10 - l.length) m = varF 10 N
theorem infoU8 : (Tryd.prog.info? 5).map (fun i => (i.zero, i.size, i.bytes)) = some (some (.int .u8 0), 1, 1) := by kernel_rfl

theorem VarInv.last {N m : Nat} {l : List UInt8} (h : VarInv N m l) (hm : m < 128) : l ++ [UInt8.ofNat m] = varF 10 N := by
  obtain ⟨_, h2, h3⟩ := h
  rw [← h3, show 10 - l.length = (9 - l.length) + 1 by omega, varF, if_pos hm]

theorem VarInv.step {N m : Nat} {l : List UInt8} (h : VarInv N m l) (hm : ¬ m < 128) : VarInv N (m / 128) (l ++ [UInt8.ofNat (m % 128 + 128)]) := by
  obtain ⟨h1, h2, h3⟩ := h
  have hlt : l.length < 9 := by
    rcases Nat.lt_or_ge l.length 9 with h | h
    · exact h
    · rw [show 10 - l.length = 1 by omega] at h1; omega
  refine ⟨?_, by simp; omega, ?_⟩
  · have e : 10 - l.length = (10 - (l ++ [UInt8.ofNat (m % 128 + 128)]).length) + 1 := by simp; omega
    rw [e, Nat.pow_succ] at h1
    exact Nat.div_lt_of_lt_mul (by rw [Nat.mul_comm]; exact h1)
  · rw [← h3, show 10 - l.length = (10 - (l ++ [UInt8.ofNat (m % 128 + 128)]).length) + 1 by simp; omega, varF, if_neg hm]
    simp
theorem or128 (m : Nat) : bits BinOp.or IntKind.u8 ((m : Int) % 256) 128 = (((UInt8.ofNat (m % 128 + 128)).toNat : Nat) : Int) := by
  have key : ∀ x : Fin 256, bits BinOp.or IntKind.u8 (x.val : Int) 128 = (((UInt8.ofNat (x.val % 128 + 128)).toNat : Nat) : Int) := by decide +kernel
  have h : ((m : Int) % 256) = ((m % 256 : Nat) : Int) := by omega
  have := key ⟨m % 256, by omega⟩
  rw [h, this, show m % 256 % 128 = m % 128 by omega]

set_option maxRecDepth 100000 in
theorem var_any (N : Nat) (w : World) (hN : N < 18446744073709551616) : Calls Tryd.prog 59 #[.int .u64 N] w fun e w' => e = .returned (.string ⟨(varF 10 N).toArray⟩) ∧ Below w.heap.size w w' := by
  have H0 : VarInv N N [] := ⟨Nat.lt_of_lt_of_le hN (by decide), by simp, rfl⟩
  clear hN
  go_enter Tryd.func59, Tryd.ntmps59
  go_wp2_with fail
  go_loopw [0, 3] (fun n b wr => ∃ (m : Nat) (l : List UInt8), n = .int .u64 m ∧ VarInv N m l ∧ wr.ownsRow w.heap.size 5 1 b l.length (byteVals l) ∧ Below w.heap.size w wr) (fun n _ _ => (intOf n).toNat)
  case atStart => exact ⟨N, [], rfl, H0, World.ownsRow_nil _ _ _ _, Below.refl _ _⟩
  case round =>
    obtain ⟨m, l, rfl, hI, hown, hb⟩ := hrel
    have hl : l.length ≤ 9 := hI.2.1
    have hsz := hb.size
    by_cases hlt : m < 128
    · go_wp2_with (at_builtin; go_must (refine wpList_push rfl rfl Tryd.underlying23 infoU8 rfl (by decide) hown hb hsz rfl rfl rfl rfl ?c1 ?c2 ?_))
      case c1 => unfold maxLen; omega
      case c2 => omega
      intro v' w' hown' hb' hnn
      have hcv := run_string_owned (P := Tryd.prog) (l := l ++ [UInt8.ofNat m]) Tryd.underlying23 Tryd.underlying5 Tryd.underlying9 (by simpa [byteVals, Nat.mod_eq_of_lt (show m < 256 by omega)] using hown') hnn
      rw [hI.last hlt] at hcv
      go_wp2_with fail
      go_ret
      exact ⟨rfl, hb'⟩
    · go_wp2_with (at_builtin; go_must (refine wpList_push rfl rfl Tryd.underlying23 infoU8 rfl (by decide) hown hb hsz rfl rfl rfl rfl ?c1 ?c2 ?_))
      case c1 => unfold maxLen; omega
      case c2 => omega
      intro v' w' hown' hb' hnn
      go_wp2_with fail
      go_roundw
      case rel => exact ⟨m / 128, l ++ [UInt8.ofNat (m % 128 + 128)], by go_num, hI.step hlt, by simpa [byteVals, -UInt8.toNat_ofNat', or128] using hown', hb'⟩
      case measure => simp [intOf]; omega
end Go.Proofs.YtlfphfklcifgpaaDoor

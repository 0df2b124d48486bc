/-
  Blanks struck off the end of bytes, by walking the library's text; conditions: the bytes lie in memory.
-/
import Derived.Test.YtklommbknfpolaaDoorFixPrintR
namespace Go.Proofs.YtklommbknfpolaaDoor
open Go.RowKit Go.Own

def trimR : List UInt8 → List UInt8 := fun l => (l.reverse.dropWhile fun b => b == 32).reverse
theorem trimR_snoc (l : List UInt8) (b : UInt8) : trimR (l ++ [b]) = if b = 32 then trimR l else l ++ [b] := by
  unfold trimR
  rw [List.reverse_append]
  simp only [List.reverse_cons, List.reverse_nil, List.nil_append, List.singleton_append, List.dropWhile_cons]
  by_cases h : b = 32
  · simp [h]
  · simp [h]
theorem trimR_take {l : List UInt8} {m : Nat} (h : m < l.length) : trimR (l.take (m + 1)) = if l[m] = 32 then trimR (l.take m) else l.take (m + 1) := by
  rw [List.take_succ_eq_append_getElem h, trimR_snoc]
theorem trimR_prefix (l : List UInt8) : trimR l <+: l := by
  unfold trimR
  rw [← List.reverse_suffix, List.reverse_reverse]
  exact List.dropWhile_suffix _
theorem trimR_len (l : List UInt8) : (trimR l).length ≤ l.length := (trimR_prefix l).length_le
theorem trimR_eq (l : List UInt8) : trimR l = l.take (trimR l).length := List.prefix_iff_eq_take.1 (trimR_prefix l)
/-- Bytes that lie in memory, one behind the other. -/
structure BytesAt (w : World) (a : Addr) (l : List UInt8) : Prop where
  lt : a.block < w.heap.size
  c : ∀ j (h : j < l.length), w.cell? (a.add j) = some (.int .u8 (l[j].toNat : Int))
theorem BytesAt.below {w w' : World} {a : Addr} {l : List UInt8} (h : BytesAt w a l) (hb : Below w.heap.size w w') : BytesAt w' a l :=
  ⟨Nat.lt_of_lt_of_le h.lt hb.size, fun j hj => by rw [← h.c j hj]; exact hb.cell (by rw [lBlock]; exact h.lt)⟩
set_option maxHeartbeats 8000000 in
set_option maxRecDepth 100000 in
theorem trimByte_any {W : World} {a : Addr} {l : List UInt8} {c : Nat} (h : BytesAt W a l) (hl : l.length ≤ 100000) (hc : l.length ≤ c) (hc2 : c ≤ maxLen) :
    Calls Tryd.prog 32 #[.slice (some a) l.length c, .int .u8 32] W fun e w' => e = .returned (.slice (some a) (trimR l).length c) ∧ Below W.heap.size W w' := by
  have HH := Lib.hid h
  have hcI : (l.length : Int) ≤ (c : Int) := by omega
  have hc2' : (c : Int) ≤ 9223372036854775807 := by unfold maxLen at hc2; omega
  have HO := Own.start W
  clear h
  go_enter Tryd.func32, Tryd.ntmps32
  go_wp2_with fail
  go_loopw [0] (fun s wr => ∃ m : Nat, m ≤ l.length ∧ s = .slice (some a) m c ∧ trimR (l.take m) = trimR l ∧ Own W wr []) (fun s _ => match s with | .slice _ m _ => m | _ => 0)
  case atStart => exact ⟨l.length, by omega, rfl, by rw [List.take_length], HO⟩
  case round =>
    clear HO
    obtain ⟨m, hm, rfl, htr, HO⟩ := hrel
    rcases m with _ | m
    · have HQ := Lib.hid (show (trimR l).length = 0 by rw [← htr]; rfl)
      go_wp2_with fail
      go_ret
      exact ⟨by rw [HQ.out]; rfl, HO.grown⟩
    have hml : m < l.length := by omega
    have HT := Lib.hid (trimR_take hml)
    have hst := Lib.hid (fun w' (hb : Below W.heap.size W w') => (HH.out.below hb).c m hml)
    have HR := Lib.hid htr
    clear htr
    have h1 : ((m + 1 : Nat) : Int) - 1 = (m : Int) := by omega
    have h2 : (0 : Int) < ((m + 1 : Nat) : Int) := by omega
    have hw : IntKind.i64.wrap (m : Int) = (m : Int) := by rw [IntKind.wrap_i64]; omega
    by_cases hb : l[m] = 32
    · have hb2 : ((l[m].toNat : Int) == 32) = true := by rw [hb]; rfl
      rw [if_pos hb] at HT
      generalize l[m] = y at *
      go_wp2_with (first | (first | go_big_skip | ((with_reducible apply wpList_loadAll HO); exact rfl; exact rfl; (repeat (with_reducible (first | exact At.head _ | apply At.tail))); infer_instance; exact rfl; exact rfl; (simp only [Act.put, List.setIfInBounds_toArray, List.set_cons_succ, List.set_cons_zero])) | ((with_reducible apply wpList_loadOne HO); exact rfl; exact rfl; (repeat (with_reducible (first | exact At.head _ | apply At.tail))); exact rfl; infer_instance; exact rfl; (simp only [Act.put, List.setIfInBounds_toArray, List.set_cons_succ, List.set_cons_zero]))) | ((with_reducible apply wpList_loadAt1 HO); exact rfl; exact rfl; exact (fun w' h1 => hst.out w' h1.grown); infer_instance; exact rfl; (simp only [Act.put, List.setIfInBounds_toArray, List.set_cons_succ, List.set_cons_zero])))
      exact ⟨⟨m, by omega, rfl, by rw [← HT.out, HR.out], HO⟩, Nat.lt_succ_self m⟩
    · have hb2 : ((l[m].toNat : Int) == 32) = false := by
        simp only [beq_eq_false_iff_ne, ne_eq]
        intro e
        exact hb (UInt8.toNat_inj.1 (by show l[m].toNat = 32; omega))
      rw [if_neg hb] at HT
      have HQ := Lib.hid (show (trimR l).length = m + 1 by
        rw [← HR.out, HT.out, List.length_take]
        omega)
      generalize l[m] = y at *
      go_wp2_with (first | (first | go_big_skip | ((with_reducible apply wpList_loadAll HO); exact rfl; exact rfl; (repeat (with_reducible (first | exact At.head _ | apply At.tail))); infer_instance; exact rfl; exact rfl; (simp only [Act.put, List.setIfInBounds_toArray, List.set_cons_succ, List.set_cons_zero])) | ((with_reducible apply wpList_loadOne HO); exact rfl; exact rfl; (repeat (with_reducible (first | exact At.head _ | apply At.tail))); exact rfl; infer_instance; exact rfl; (simp only [Act.put, List.setIfInBounds_toArray, List.set_cons_succ, List.set_cons_zero]))) | ((with_reducible apply wpList_loadAt1 HO); exact rfl; exact rfl; exact (fun w' h1 => hst.out w' h1.grown); infer_instance; exact rfl; (simp only [Act.put, List.setIfInBounds_toArray, List.set_cons_succ, List.set_cons_zero])))
      go_ret
      exact ⟨by rw [HQ.out]; rfl, HO.grown⟩
set_option maxHeartbeats 8000000 in
set_option maxRecDepth 100000 in
theorem trim_any {W : World} {a : Addr} {l : List UInt8} {c : Nat} (h : BytesAt W a l) (hl : l.length ≤ 100000) (h0 : 0 < l.length) (hc : l.length ≤ c) (hc2 : c ≤ maxLen) :
    Calls Tryd.prog 23 #[.slice (some a) l.length c, .string ⟨#[32]⟩] W fun e w' => e = .returned (.slice (some a) (trimR l).length c) ∧ Below W.heap.size W w' := by
  have TB := fun w (hb : Below W.heap.size W w) => trimByte_any (W := w) (h.below hb) hl hc hc2
  have HO := Own.start W
  clear h
  have hl0 : ((l.length : Int) == 0) = false := by simp only [beq_eq_false_iff_ne, ne_eq]; omega
  have hl0' : ¬ l.length = 0 := by omega
  have hl0'' : ¬ l = [] := by rintro rfl; simp at h0
  generalize (trimR l).length = k at *
  go_enter Tryd.func23, Tryd.ntmps23
  go_wp2_with (first | (first | go_big_skip | ((with_reducible apply wpList_loadAll HO); exact rfl; exact rfl; (repeat (with_reducible (first | exact At.head _ | apply At.tail))); infer_instance; exact rfl; exact rfl; (simp only [Act.put, List.setIfInBounds_toArray, List.set_cons_succ, List.set_cons_zero])) | ((with_reducible apply wpList_loadOne HO); exact rfl; exact rfl; (repeat (with_reducible (first | exact At.head _ | apply At.tail))); exact rfl; infer_instance; exact rfl; (simp only [Act.put, List.setIfInBounds_toArray, List.set_cons_succ, List.set_cons_zero]))) | (go_at_call 32; go_must ((with_reducible refine (TB _ HO.grown).mono ?_); rintro e w ⟨rfl, hb⟩; replace HO := HO.call hb; clear hb)))
  all_goals (go_ret; exact ⟨rfl, HO.grown⟩)
end Go.Proofs.YtklommbknfpolaaDoor

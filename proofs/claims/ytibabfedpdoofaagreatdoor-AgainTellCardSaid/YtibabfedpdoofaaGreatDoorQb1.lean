/-
  A slice literal of several structs; over any program; conditions: none.
-/
import Derived.Test.YtibabfedpdoofaaGreatDoorQa1
import Derived.Test.YtibabfedpdoofaaGreatDoorQa2
namespace Go.Own
open Go.RowKit

theorem fold_mid : ∀ (l : List Value) (i off : Nat) (z : List Value), off + i + l.length ≤ z.length →
    (l.zipIdx i).foldl (fun (cs : Array Value) (p : Value × Nat) => cs.setIfInBounds (off + p.2) p.1) z.toArray = (z.take (off + i) ++ l ++ z.drop (off + i + l.length)).toArray
  | [], i, off, z, h => by simp
  | x :: l, i, off, z, h => by
    simp only [List.length_cons] at h
    rw [List.zipIdx_cons, List.foldl_cons]
    have e : (z.toArray.setIfInBounds (off + i) x) = (z.set (off + i) x).toArray := by simp
    rw [e, fold_mid l (i + 1) off (z.set (off + i) x) (by simp; omega)]
    congr 1
    rw [← Nat.add_assoc, List.take_succ_eq_append_getElem (by simp; omega), List.take_set_of_le (Nat.le_refl _), List.drop_set_of_lt (by omega)]
    simp only [List.getElem_set_self, List.append_assoc, List.singleton_append, List.length_cons]
    rw [show off + i + 1 + l.length = off + i + (l.length + 1) by omega]
def partsOf : List (List Value) → Nat → List (Nat × Value)
  | [], _ => []
  | l :: ls, i => (i, .agg l.toArray) :: partsOf ls (i + 1)
theorem fill_many {k : Nat} : ∀ (ls : List (List Value)) (i : Nat) (pre suf : List Value), pre.length = i * k → suf.length = ls.length * k → (∀ l ∈ ls, l.length = k) →
    Instr.fill (fun i => some (i * k, k)) (pre ++ suf).toArray (partsOf ls i) = some (pre ++ ls.flatten).toArray
  | [], i, pre, suf, h1, h2, _ => by
    have : suf = [] := List.length_eq_zero_iff.1 (by simpa using h2)
    subst this
    simp [partsOf, Instr.fill]
  | l :: ls, i, pre, suf, h1, h2, h3 => by
    have hl := h3 l List.mem_cons_self
    have h2' : suf.length = ls.length * k + k := by rw [h2, List.length_cons, Nat.succ_mul]
    unfold partsOf Instr.fill
    have hsz : (Value.agg l.toArray).cells = l.toArray := rfl
    simp only [hsz]
    have hc : ¬ (l.toArray.size ≠ k || decide (i * k + l.toArray.size > (pre ++ suf).toArray.size)) = true := by
      simp [hl]
      omega
    rw [if_neg (by simpa using hc), ← Array.foldl_toList, Array.toList_zipIdx]
    have hf := fold_mid l 0 (i * k) (pre ++ suf) (by simp; omega)
    simp only [Nat.add_zero] at hf
    rw [hf, List.take_append_of_le_length (by omega), List.take_of_length_le (by omega), List.drop_append, List.drop_eq_nil_of_le (by omega), List.nil_append]
    have h4 := fill_many ls (i + 1) (pre ++ l) (suf.drop (i * k + l.length - pre.length)) (by rw [List.length_append, h1, hl, Nat.succ_mul]) (by rw [List.length_drop]; omega) (fun x hx => h3 x (List.mem_cons_of_mem _ hx))
    rw [h4]
    simp
section
variable {P : Program} {ops : Array Oper} {rest : List Oper} {o : Oper} {a : Act} {W w : World} {Q : Exit → Act → World → Prop} {L : List Ent}
theorem wpList_litN {t e k n by' : Nat} {parts : Array (Nat × Operand)} (ls : List (List Value)) (hO : Own W w L) (ho : o.op = .buildSlice t n parts) (ht : IsSlice P t e) (hsz : IsElem P e k by') (hp0 : parts.toList.map (fun p => (p.1, a.eval p.2)) = partsOf ls 0) (hn : ls.length = n)
    (hl0 : (ls.all fun l => Nat.beq l.length k) = true) (hk0 : Nat.ble (n * k) 1000 = true) (hn1 : Nat.ble 1 n = true) (hw : Region.wanted o (yielded ops a.tmps) = true) (h : ∀ b w', Own W w' (box b (.cells ls.flatten.toArray e) :: L) → wpList P ops Q rest (a.put o.dst (.slice (some ⟨b, 0, none⟩) n n)) w') : wpList P ops Q (o :: rest) a w := by
  have h1 := hsz.out
  have hpos := hsz.pos
  have hp : (parts.map fun (i, x) => (i, a.eval x)).toList = partsOf ls 0 := by rw [Array.toList_map]; exact hp0
  have hn0 : 0 < n := Nat.le_of_ble_eq_true hn1
  have hk : n * k ≤ 1000 := Nat.le_of_ble_eq_true hk0
  have hl : ∀ l ∈ ls, l.length = k := fun l hl => Nat.eq_of_beq_eq_true (List.all_eq_true.1 hl0 l hl)
  have hnk : 0 < n * k := Nat.mul_pos hn0 hpos
  have hrun : (execOp a.eval o).run P w = .ok (.value (.slice (some ⟨w.heap.size, 0, none⟩) n n)) (w.alloc (.cells ls.flatten.toArray e)) := by
    cases hi : P.info? e with
    | none => simp [hi] at h1
    | some i =>
      cases hzz : i.zero with
      | none => simp [hi, hzz] at h1
      | some zv =>
        simp only [hi, hzz, Option.bind_some, Option.map_some, Option.some.injEq, Prod.mk.injEq] at h1
        obtain ⟨h2, h3, _⟩ := h1
        have hlt : ¬ (16777216 < n * k) := by omega
        have h0 : ¬ (n * k = 0) := by omega
        have h00 : ¬ (n = 0) := by omega
        have h01 : ¬ (k = 0) := by omega
        have hf : Instr.fill (fun i => some (i * k, k)) (Array.map (fun x => zv.cells[x % zv.cells.size]!) (Array.range (n * k))) (parts.map fun (i, x) => (i, a.eval x)).toList = some ls.flatten.toArray := by
          rw [hp]
          have := fill_many (k := k) ls 0 [] (Array.map (fun x => zv.cells[x % zv.cells.size]!) (Array.range (n * k))).toList (by simp) (by simp [hn]) hl
          rwa [List.nil_append, List.nil_append, Array.toArray_toList] at this
        unfold execOp
        simp only [ho, Instr.buildSlice]
        simp [underlying, ht.out, sizeOf, typeInfo, hi, h3, h0, zeroValue, hzz, hlt, newRow]
        simp at hf
        simp [hf]
  exact wpList_value hw hrun (h _ _ (hO.alloc _))
end
end Go.Own

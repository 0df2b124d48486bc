/-
  A row of zero structs made; a one-byte slice as a string; over any program; conditions: none.
-/
import Derived.Test.YthiokpjakiidjaaJoin
import Derived.Laws.MakeOwn
import Derived.Laws.IdiomStrings
namespace Go.Own
open Go.RowKit
theorem made_flat (z : Array Value) (hz : 0 < z.size) : ∀ n, madeCells z (n * z.size) = (List.replicate n z.toList).flatten.toArray := by
  intro n
  apply Array.ext
  · simp [madeCells]
  · intro i h1 h2
    have hi : i < n * z.size := by simpa [madeCells] using h1
    have hm : i % z.size < z.size := Nat.mod_lt _ hz
    simp only [madeCells, Array.getElem_map, Array.getElem_range, List.getElem_toArray]
    rw [getElem!_pos z (i % z.size) hm]
    clear h1
    induction n generalizing i with
    | zero => simp at hi
    | succ n ih =>
      simp only [List.replicate_succ, List.flatten_cons]
      by_cases hlt : i < z.size
      · rw [List.getElem_append_left (by simpa using hlt)]
        simp [Nat.mod_eq_of_lt hlt]
      · have hsub : i - z.size < n * z.size := by rw [Nat.succ_mul] at hi; omega
        rw [List.getElem_append_right (by simpa using Nat.le_of_not_lt hlt)]
        have e : i % z.size = (i - z.size) % z.size := (Nat.mod_eq_sub_mod (Nat.le_of_not_lt hlt))
        have h3 := ih (i - z.size) (by simpa using hsub) hsub (Nat.mod_lt _ hz)
        simp only [Array.length_toList]
        rw [← h3]
        congr 1
section
variable {P : Program} {ops : Array Oper} {rest : List Oper} {o : Oper} {a : Act} {W w : World} {Q : Exit → Act → World → Prop} {L L' : List Ent}
theorem wpList_makeRow {t e k by' : Nat} {x y : Operand} {n : Nat} {kd : IntKind} {z : Value} (hO : Own W w L) (ho : o.op = .makeSlice t x y) (hx : a.eval x = .int kd (n : Int)) (hy : a.eval y = .int kd (n : Int)) (ht : P.underlying t = some (.slice e)) (he : IsElem P e k by') (hz : HasZero P e z) (hzk : z.cells.size = k) (hn : n * k ≤ 1000000) (hb : by' * n ≤ 281474976710656)
    (hw : Region.wanted o (yielded ops a.tmps) = true) (h : ∀ b w', Own W w' (row e k (.slice (some ⟨b, 0, none⟩) n n) (List.replicate n z.cells.toList) :: L) → wpList P ops Q rest (a.put o.dst (.slice (some ⟨b, 0, none⟩) n n)) w') : wpList P ops Q (o :: rest) a w := by
  have hpos := he.pos
  have h1 := he.out
  cases hi : P.info? e with
  | none => simp [hi] at h1
  | some i =>
    cases hzz : i.zero with
    | none => simp [hi, hzz] at h1
    | some zv =>
      simp only [hi, hzz, Option.bind_some, Option.map_some, Option.some.injEq, Prod.mk.injEq] at h1
      obtain ⟨h2, h3, h4⟩ := h1
      have hz2 := hz.out
      rw [hi] at hz2
      obtain rfl : zv = z := by
        have : i.zero = some z := hz2
        rw [hzz] at this
        exact Option.some.inj this
      have hr := run_makeSlice (P := P) w t e i zv ht hi hzz kd kd (n : Int) (n : Int) (by omega) (Int.le_refl _) (by rw [h3, Int.toNat_natCast]; omega) (by rw [h4, ← Int.natCast_mul]; omega) (by have : n ≤ n * k := Nat.le_mul_of_pos_right n hpos; omega)
      rw [h3, Int.toNat_natCast, ← hzk, made_flat zv.cells (by omega)] at hr
      obtain ⟨cs, hcs⟩ : ∃ cs, (List.replicate n zv.cells.toList).flatten.toArray = cs := ⟨_, rfl⟩
      rw [hcs] at hr
      have hnk : n ≤ maxLen := by
        have : n ≤ n * k := Nat.le_mul_of_pos_right n hpos
        unfold maxLen; omega
      exact wpList_value hw (by simp [execOp, ho, hx, hy, hr, Result.andThen]) (h _ _ (Own.litRow (n := n) (hO.alloc _) (fun l hl => by rw [List.eq_of_mem_replicate hl]; simpa using hzk) (by simp) hcs hnk))
theorem wpList_strGen {src dst e : TypeId} {x : Operand} {q : Addr} {c : Nat} {l : List UInt8} (ho : o.op = .convert src dst x) (hx : a.eval x = .slice (some q) l.length c) (hs : P.underlying src = some (.slice e)) (he : P.underlying e = some (.int .u8)) (hd : P.underlying dst = some .string)
    (hc : ∀ j (hj : j < l.length), w.cell? (q.add j) = some (.int .u8 (l[j].toNat : Int)))
    (hw : Region.wanted o (yielded ops a.tmps) = true) (h : wpList P ops Q rest (a.put o.dst (.string ⟨l.toArray⟩)) w) : wpList P ops Q (o :: rest) a w := by
  have h1 := run_convert_bytes_back (P := P) w src dst e q c l hs he hd hc
  exact wpList_value hw (by simp [execOp, ho, hx, h1, Result.andThen]) h
theorem wpList_strOne {src dst e : TypeId} {x : Operand} {b n c : Nat} {v : Int} {T : TypeId} (hO : Own W w L) (ho : o.op = .convert src dst x) (hx : a.eval x = .slice (some ⟨b, 0, none⟩) 1 c) (hat : At (box b (.cells [Value.int .u8 v].toArray T)) (box b (.cells [Value.int .u8 v].toArray T)) L L') (hv : v = (n : Int)) (hs : P.underlying src = some (.slice e)) (he : P.underlying e = some (.int .u8)) (hd : P.underlying dst = some .string)
    (hn : n < 256) (hw : Region.wanted o (yielded ops a.tmps) = true) (h : wpList P ops Q rest (a.put o.dst (.string ⟨#[UInt8.ofNat n]⟩)) w) : wpList P ops Q (o :: rest) a w := by
  have hc : ∀ j (hj : j < [UInt8.ofNat n].length), w.cell? ((⟨b, 0, none⟩ : Addr).add j) = some (.int .u8 (([UInt8.ofNat n][j]).toNat : Int)) := fun j hj => by
    obtain rfl : j = 0 := by simp at hj; exact hj
    rw [addAt, cellAt (hO.has _ hat.mem)]
    simp [hv]
    omega
  exact wpList_strGen (l := [UInt8.ofNat n]) ho hx hs he hd hc hw h
end
end Go.Own

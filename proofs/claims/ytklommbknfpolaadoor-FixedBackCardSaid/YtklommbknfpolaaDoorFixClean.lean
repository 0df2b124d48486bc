/-
  A field's bytes brought to such as may stand in a line, by walking the law's text; lines that are parsed back; conditions: those of each.
-/
import Derived.Test.YtklommbknfpolaaDoorFixForm
import Derived.Laws.MakeOwn
namespace Go.Own
open Go.RowKit
theorem made_rep (z : Value) (n : Nat) : madeCells #[z] n = (List.replicate n z).toArray := by
  unfold madeCells
  apply Array.ext
  · simp
  · intro i h1 h2
    simp [Nat.mod_one]
section
variable {P : Program} {ops : Array Oper} {rest : List Oper} {o : Oper} {a : Act} {W w : World} {Q : Exit → Act → World → Prop} {L : List Ent}
theorem wpList_makeBytes {t e : TypeId} {x y : Operand} {n : Nat} {k : IntKind} (hO : Own W w L) (ho : o.op = .makeSlice t x y) (hx : a.eval x = .int k (n : Int)) (hy : a.eval y = .int k (n : Int)) (ht : P.underlying t = some (.slice e)) (hi : (P.info? e).map (fun i => (i.zero, i.size, i.bytes)) = some (some (.int .u8 0), 1, 1)) (hn : n ≤ 1000000)
    (hw : Region.wanted o (yielded ops a.tmps) = true) (h : ∀ b w', Own W w' (box b (.cells (List.replicate n (.int .u8 0)).toArray e) :: L) → wpList P ops Q rest (a.put o.dst (.slice (some ⟨b, 0, none⟩) n n)) w') : wpList P ops Q (o :: rest) a w := by
  obtain ⟨i0, h1, h2, h3, h4⟩ := info_parts hi
  have hr := run_makeSlice (P := P) w t e i0 (.int .u8 0) ht h1 h2 k k (n : Int) (n : Int) (by omega) (Int.le_refl _) (by rw [h3]; omega) (by rw [h4]; omega) (by omega)
  rw [h3, Int.toNat_natCast, Nat.mul_one, show (Value.int IntKind.u8 0).cells = #[.int .u8 0] from rfl, made_rep] at hr
  exact wpList_value hw (by simp [execOp, ho, hx, hy, hr, Result.andThen]) (h _ _ (hO.alloc _))
end
theorem addAt0 (b j : Nat) : (⟨b, 0, none⟩ : Addr).add j = ⟨b, j, none⟩ := by
  unfold Addr.add
  split
  · subst_vars; rfl
  · simp
end Go.Own
namespace Go.Proofs.YtklommbknfpolaaDoor
open Go.RowKit Go.Own

def cl (c : UInt8) : UInt8 := UInt8.ofNat (33 + c.toNat % 94)
theorem cl_nat (c : UInt8) : (cl c).toNat = 33 + c.toNat % 94 := by
  unfold cl
  rw [UInt8.toNat_ofNat']
  omega
theorem cl_even (c : UInt8) : oddB (cl c) = false := by
  simp only [oddB, cl_nat, Bool.or_eq_false_iff, decide_eq_false_iff_not]
  omega
def cleanB (s : ByteArray) : ByteArray := ⟨((tx s).map cl).toArray⟩
theorem clean_tx (s : ByteArray) : tx (cleanB s) = (tx s).map cl := by simp [tx, cleanB]
theorem clean_size (s : ByteArray) : (cleanB s).size = s.size := by
  have := congrArg List.length (clean_tx s)
  rw [List.length_map] at this
  exact this
/-- What stands in the row when j bytes have been brought. -/
def cleanC (l : List UInt8) (j : Nat) : List Value := (l.take j).map (fun c => Value.int .u8 ((cl c).toNat : Int)) ++ List.replicate (l.length - j) (.int .u8 0)
theorem cleanC_zero (l : List UInt8) : cleanC l 0 = List.replicate l.length (.int .u8 0) := by simp [cleanC]
theorem cleanC_len (l : List UInt8) {j : Nat} (hj : j ≤ l.length) : (cleanC l j).length = l.length := by simp [cleanC]; omega
theorem cleanC_set {l : List UInt8} {j : Nat} (hj : j < l.length) : (cleanC l j).set j (.int .u8 ((cl l[j]).toNat : Int)) = cleanC l (j + 1) := by
  unfold cleanC
  rw [List.set_append_right _ _ (by simp; omega), List.length_map, List.length_take, Nat.min_eq_left (Nat.le_of_lt hj), Nat.sub_self, show l.length - j = (l.length - (j + 1)) + 1 by omega, List.replicate_succ, List.set_cons_zero, List.take_succ_eq_append_getElem hj, List.map_append, List.append_assoc]
  rfl
theorem cleanC_end (l : List UInt8) : cleanC l l.length = (l.map cl).map fun b => Value.int .u8 (b.toNat : Int) := by
  simp [cleanC]
set_option maxHeartbeats 8000000 in
set_option maxRecDepth 100000 in
theorem clean_any {W : World} (s : ByteArray) (hs : s.size ≤ 100) : Calls Tryd.prog 13 #[.string s] W fun e w' => e = .returned (.string (cleanB s)) ∧ Below W.heap.size W w' := by
  have HO := Own.start W
  have hsl : (tx s).length = s.size := rfl
  go_enter Tryd.func13, Tryd.ntmps13
  go_wp2_with (first | (first | go_big_skip | ((with_reducible apply wpList_loadAll HO); exact rfl; exact rfl; (repeat (with_reducible (first | exact At.head _ | apply At.tail))); infer_instance; exact rfl; exact rfl; (simp only [Act.put, List.setIfInBounds_toArray, List.set_cons_succ, List.set_cons_zero])) | ((with_reducible apply wpList_loadOne HO); exact rfl; exact rfl; (repeat (with_reducible (first | exact At.head _ | apply At.tail))); exact rfl; infer_instance; exact rfl; (simp only [Act.put, List.setIfInBounds_toArray, List.set_cons_succ, List.set_cons_zero]))) | ((with_reducible apply wpList_makeBytes HO); exact rfl; exact rfl; exact rfl; exact Tryd.underlying31; exact (Tryd.Builder_Extra_169).infoByte; omega; exact rfl; clear HO; intro b w HO; (simp only [Act.put, List.setIfInBounds_toArray, List.set_cons_succ, List.set_cons_zero])))
  have HO2 : Own W w [box b (.cells (cleanC (tx s) 0).toArray 5)] := by rw [cleanC_zero]; exact HO
  clear HO
  go_loopw [4] (fun i wr => ∃ j : Nat, j ≤ s.size ∧ i = .int .i64 (j : Int) ∧ Own W wr [box b (.cells (cleanC (tx s) j).toArray 5)]) (fun i _ => s.size - (intOf i).toNat)
  case atStart => exact ⟨0, by omega, rfl, HO2⟩
  case round =>
    clear HO2
    obtain ⟨j, hj, rfl, HO⟩ := hrel
    by_cases hjl : j < s.size
    · have hjI : (j : Int) < (s.size : Int) := by omega
      have HC := cleanC_set (l := tx s) (j := j) hjl
      have hlen := Lib.hid (cleanC_len (tx s) (j := j) (by omega))
      rw [cl_nat, show (tx s)[j]'hjl = s[j] from rfl] at HC
      rw [show (((33 + s[j].toNat % 94 : Nat)) : Int) = 33 + (s[j].toNat : Int) % 94 by omega] at HC
      replace HC := Lib.hid HC
      go_wp2_with (first | (first | go_big_skip | ((with_reducible apply wpList_loadAll HO); exact rfl; exact rfl; (repeat (with_reducible (first | exact At.head _ | apply At.tail))); infer_instance; exact rfl; exact rfl; (simp only [Act.put, List.setIfInBounds_toArray, List.set_cons_succ, List.set_cons_zero])) | ((with_reducible apply wpList_loadOne HO); exact rfl; exact rfl; (repeat (with_reducible (first | exact At.head _ | apply At.tail))); exact rfl; infer_instance; exact rfl; (simp only [Act.put, List.setIfInBounds_toArray, List.set_cons_succ, List.set_cons_zero]))) | ((with_reducible apply wpList_storeOne (b := b) (off := j) (v := .int .u8 (33 + (s[j].toNat : Int) % 94)) HO); exact rfl; exact rfl; exact rfl; exact rfl; exact (.head _); infer_instance; (rw [hlen.out]; exact hjl); exact rfl; exact rfl; clear HO; intro w HO; (simp only [Act.put])))
      rw [HC.out] at HO
      go_roundw
      case rel => exact ⟨j + 1, by omega, by go_num, HO⟩
      case measure => simp [intOf] <;> omega
    obtain rfl : j = s.size := by omega
    have hcl : ((tx s).map cl).length = s.size := by rw [List.length_map]; exact hsl
    have hcells : ∀ w', Own W w' [box b (.cells (cleanC (tx s) s.size).toArray 5)] → ∀ j (hj : j < ((tx s).map cl).length), w'.cell? ((⟨b, 0, none⟩ : Addr).add j) = some (.int .u8 ((((tx s).map cl)[j]).toNat : Int)) := fun w' h1 j hj => by
      rw [addAt0, Lib.cell_of_heap (h1.has _ List.mem_cons_self), show s.size = (tx s).length from rfl, cleanC_end]
      simp
      exact ⟨_, Array.getElem?_eq_getElem (show j < s.data.size by rw [hcl] at hj; exact hj), rfl⟩
    have HQ := Lib.hid (show (⟨((tx s).map cl).toArray⟩ : ByteArray) = cleanB s from rfl)
    replace hcells := Lib.hid hcells
    go_wp2_with (first | (first | go_big_skip | ((with_reducible apply wpList_loadAll HO); exact rfl; exact rfl; (repeat (with_reducible (first | exact At.head _ | apply At.tail))); infer_instance; exact rfl; exact rfl; (simp only [Act.put, List.setIfInBounds_toArray, List.set_cons_succ, List.set_cons_zero])) | ((with_reducible apply wpList_loadOne HO); exact rfl; exact rfl; (repeat (with_reducible (first | exact At.head _ | apply At.tail))); exact rfl; infer_instance; exact rfl; (simp only [Act.put, List.setIfInBounds_toArray, List.set_cons_succ, List.set_cons_zero]))) | ((with_reducible apply wpList_stringOf (l := (tx s).map cl) (q := ⟨b, 0, none⟩) (c := s.size)); exact rfl; (rw [hcl]; exact rfl); exact Tryd.underlying31; exact Tryd.underlying5; exact Tryd.underlying9; exact hcells.out _ HO; exact rfl; (simp only [Act.put, List.setIfInBounds_toArray, List.set_cons_succ, List.set_cons_zero])))
    go_ret
    exact ⟨rfl, HO.grown⟩
end Go.Proofs.YtklommbknfpolaaDoor

/-
  The chapter's examples of lines, by walking the law's text; conditions: none.
-/
import Derived.Test.YtklommbknfpolaaDoorFixSame
namespace Go.Own
open Go.RowKit
theorem one_cells {v : Value} (h : v.oneCell' = true) : v.cells = #[v] := by cases v <;> first | rfl | cases h
theorem fill_two (z : Array Value) (hz : z.size = 2) (u v : Value) (hu : u.cells = #[u]) (hv : v.cells = #[v]) : Instr.fill (fun i => some (i * 1, 1)) z [(0, u), (1, v)] = some #[u, v] := by
  obtain ⟨l⟩ := z
  match l, hz with
  | [c, d], _ => simp [Instr.fill, hu, hv]
section
variable {P : Program} {ops : Array Oper} {rest : List Oper} {o : Oper} {a : Act} {W w : World} {Q : Exit → Act → World → Prop} {L : List Ent}
/-- A slice literal of two elements, of one cell each. -/
theorem run_lit2c {t e by' : Nat} {x y : Operand} {u v : Value} (ho : o.op = .buildSlice t 2 #[(0, x), (1, y)]) (ht : IsSlice P t e) (hsz : IsElem P e 1 by') (hx : a.eval x = u) (hy : a.eval y = v) (hu : u.oneCell' = true) (hv : v.oneCell' = true) (w : World) :
    (execOp a.eval o).run P w = .ok (.value (.slice (some ⟨w.heap.size, 0, none⟩) 2 2)) (w.alloc (.cells #[u, v] e)) := by
  have h1 := hsz.out
  cases hi : P.info? e with
  | none => simp [hi] at h1
  | some i =>
    cases hzz : i.zero with
    | none => simp [hi, hzz] at h1
    | some zv =>
      simp only [hi, hzz, Option.bind_some, Option.map_some, Option.some.injEq, Prod.mk.injEq] at h1
      obtain ⟨h2, h3, _⟩ := h1
      have hf := fill_two (Array.map (fun x => zv.cells[x % zv.cells.size]!) (Array.range 2)) (by simp) u v (one_cells hu) (one_cells hv)
      simp only [Nat.mul_one] at hf
      unfold execOp
      simp only [ho, Instr.buildSlice]
      simp [underlying, ht.out, sizeOf, typeInfo, hi, h3, zeroValue, hzz, newRow, hx, hy, hf]
theorem wpList_lit2c {t e by' : Nat} {x y : Operand} {u v : Value} (hO : Own W w L) (ho : o.op = .buildSlice t 2 #[(0, x), (1, y)]) (ht : IsSlice P t e) (hsz : IsElem P e 1 by') (hx : a.eval x = u) (hy : a.eval y = v) (hu : u.oneCell' = true) (hv : v.oneCell' = true)
    (hw : Region.wanted o (yielded ops a.tmps) = true) (h : ∀ b w', Own W w' (box b (.cells #[u, v] e) :: L) → wpList P ops Q rest (a.put o.dst (.slice (some ⟨b, 0, none⟩) 2 2)) w') : wpList P ops Q (o :: rest) a w :=
  wpList_value hw (run_lit2c ho ht hsz hx hy hu hv w) (h _ _ (hO.alloc _))
end
end Go.Own
namespace Go.Own
open Go.RowKit
theorem isL_box {w : World} {t k n b : Nat} {cs : Array Value} {A : List (List Value)} (hF : w.heap[b]? = some (.cells cs t)) (hA : ∀ l ∈ A, l.length = k) (hn : A.length = n) (hc : A.flatten.toArray = cs) (hm : n ≤ maxLen) : IsL w k (.slice (some ⟨b, 0, none⟩) n n) A := by
  have h : w.ownsRow 0 t k (.slice (some ⟨b, 0, none⟩) n n) A.length A.flatten := by
    refine ⟨flatL_len hA, .inr ⟨b, n, cs, by rw [hn], Nat.zero_le _, hF, by omega, hm, ?_, ?_⟩⟩
    · rw [← hc]; simp [flatL_len hA, hn]
    · rw [← hc]; rw [List.take_of_length_le]; simp [flatL_len hA]
  exact isL_of_owns hA h
end Go.Own
namespace Go.Proofs.YtklommbknfpolaaDoor
open Go.RowKit Go.Own

theorem ints_box {W w : World} {L : List Ent} {b : Nat} (hO : Own W w L) (hat : (box b (.cells #[.int .i64 2, .int .i64 3] 3)) ∈ L) : IsInts w (.slice (some ⟨b, 0, none⟩) 2 2) [2, 3] :=
  isL_box (hO.has _ hat) (by simp) rfl rfl (by decide)
theorem strs_box2 {W w : World} {L : List Ent} {b : Nat} {x y : ByteArray} (hO : Own W w L) (hat : (box b (.cells #[.string x, .string y] 9)) ∈ L) : IsStrs w (.slice (some ⟨b, 0, none⟩) 2 2) [x, y] :=
  isL_box (hO.has _ hat) (by simp) rfl rfl (by decide)
theorem strs_box1 {W w : World} {L : List Ent} {b : Nat} {x : ByteArray} (hO : Own W w L) (hat : (box b (.cells #[.string x] 9)) ∈ L) : IsStrs w (.slice (some ⟨b, 0, none⟩) 1 1) [x] :=
  isL_box (hO.has _ hat) (by simp) rfl rfl (by decide)
set_option maxHeartbeats 8000000 in
set_option maxRecDepth 100000 in
theorem lined_any (W : World) : Calls Tryd.prog 7 #[] W fun e w' => e = .returned (.bool true) ∧ Below W.heap.size W w' := by
  have P1 : ∀ (w : World) (L : List Ent) (b : Nat), Own W w L → (box b (.cells #[.int .i64 2, .int .i64 3] 3)) ∈ L → Calls Tryd.prog 10 #[.slice (some ⟨b, 0, none⟩) 2 2, .string ⟨#[97, 32, 98, 99, 100]⟩] w fun e w' => ∃ p c, e = .returned (.tuple #[.slice p 2 c, .int .i64 0]) ∧ Own w w' [row 9 1 (.slice p 2 c) (([[97], [98, 99, 100]] : List (List UInt8)).map strC)] := fun w L b hO hat =>
    (parse_any ⟨#[97, 32, 98, 99, 100]⟩ (ints_box hO hat) (by decide)).mono fun e w' he => by
      rw [show parseF [2, 3] (tx ⟨#[97, 32, 98, 99, 100]⟩) = ([[97], [98, 99, 100]], 0) by decide +kernel] at he
      exact he
  have P2 : ∀ (w : World) (L : List Ent) (b : Nat), Own W w L → (box b (.cells #[.int .i64 2, .int .i64 3] 3)) ∈ L → Calls Tryd.prog 10 #[.slice (some ⟨b, 0, none⟩) 2 2, .string ⟨#[97, 32, 98]⟩] w fun e w' => ∃ p c, e = .returned (.tuple #[.slice p 0 c, .int .i64 4]) ∧ Own w w' [row 9 1 (.slice p 0 c) (([] : List (List UInt8)).map strC)] := fun w L b hO hat =>
    (parse_any ⟨#[97, 32, 98]⟩ (ints_box hO hat) (by decide)).mono fun e w' he => by
      rw [show parseF [2, 3] (tx ⟨#[97, 32, 98]⟩) = ([], 4) by decide +kernel] at he
      exact he
  have P3 : ∀ (w : World) (L : List Ent) (b : Nat), Own W w L → (box b (.cells #[.int .i64 2, .int .i64 3] 3)) ∈ L → Calls Tryd.prog 10 #[.slice (some ⟨b, 0, none⟩) 2 2, .string ⟨#[9, 98, 98, 99, 100]⟩] w fun e w' => ∃ p c, e = .returned (.tuple #[.slice p 0 c, .int .i64 1]) ∧ Own w w' [row 9 1 (.slice p 0 c) (([] : List (List UInt8)).map strC)] := fun w L b hO hat =>
    (parse_any ⟨#[9, 98, 98, 99, 100]⟩ (ints_box hO hat) (by decide)).mono fun e w' he => by
      rw [show parseF [2, 3] (tx ⟨#[9, 98, 98, 99, 100]⟩) = ([], 1) by decide +kernel] at he
      exact he
  have Q1 : ∀ (w : World) (L : List Ent) (b d : Nat), Own W w (box d (.cells #[.string ⟨#[97]⟩, .string ⟨#[98, 99, 100]⟩] 9) :: L) → (box b (.cells #[.int .i64 2, .int .i64 3] 3)) ∈ L → Calls Tryd.prog 8 #[.slice (some ⟨b, 0, none⟩) 2 2, .slice (some ⟨d, 0, none⟩) 2 2] w fun e w' => e = .returned (.string ⟨#[97, 32, 98, 99, 100]⟩) ∧ Below w.heap.size w w' := fun w L b d hO hat => by
    have := print_any (ints_box hO (List.mem_cons_of_mem _ hat)) (strs_box2 hO List.mem_cons_self) (by decide)
    rwa [show printF [2, 3] (([⟨#[97]⟩, ⟨#[98, 99, 100]⟩] : List ByteArray).map tx) = [97, 32, 98, 99, 100] by decide +kernel] at this
  have Q2 : ∀ (w : World) (L : List Ent) (b d : Nat), Own W w (box d (.cells #[.string ⟨#[97, 98, 99]⟩, .string ⟨#[98]⟩] 9) :: L) → (box b (.cells #[.int .i64 2, .int .i64 3] 3)) ∈ L → Calls Tryd.prog 8 #[.slice (some ⟨b, 0, none⟩) 2 2, .slice (some ⟨d, 0, none⟩) 2 2] w fun e w' => e = .returned (.string ⟨#[]⟩) ∧ Below w.heap.size w w' := fun w L b d hO hat => by
    have := print_any (ints_box hO (List.mem_cons_of_mem _ hat)) (strs_box2 hO List.mem_cons_self) (by decide)
    rwa [show printF [2, 3] (([⟨#[97, 98, 99]⟩, ⟨#[98]⟩] : List ByteArray).map tx) = [] by decide +kernel] at this
  have Q3 : ∀ (w : World) (L : List Ent) (b d : Nat), Own W w (box d (.cells [.string ⟨#[97]⟩].toArray 9) :: L) → (box b (.cells #[.int .i64 2, .int .i64 3] 3)) ∈ L → Calls Tryd.prog 8 #[.slice (some ⟨b, 0, none⟩) 2 2, .slice (some ⟨d, 0, none⟩) 1 1] w fun e w' => e = .returned (.string ⟨#[]⟩) ∧ Below w.heap.size w w' := fun w L b d hO hat => by
    have := print_any (ints_box hO (List.mem_cons_of_mem _ hat)) (strs_box1 hO List.mem_cons_self) (by decide)
    rwa [show printF [2, 3] (([⟨#[97]⟩] : List ByteArray).map tx) = [] by decide +kernel] at this
  have S1 : ∀ (w : World) (L : List Ent) (d : Nat) (p : Option Addr) (c : Nat), Own W w (box d (.cells #[.string ⟨#[97]⟩, .string ⟨#[98, 99, 100]⟩] 9) :: L) → (row 9 1 (.slice p 2 c) (([[97], [98, 99, 100]] : List (List UInt8)).map strC)) ∈ L → Calls Tryd.prog 12 #[.slice p 2 c, .slice (some ⟨d, 0, none⟩) 2 2] w fun e w' => e = .returned (.bool true) ∧ Below w.heap.size w w' := fun w L d p c hO hat => by
    have h0 : IsL w 1 (.slice p 2 c) (([[97], [98, 99, 100]] : List (List UInt8)).map strC) := isL_of_owns (strC_len _) (hO.has _ (List.mem_cons_of_mem _ hat))
    have h1 : IsStrs w (.slice p 2 c) [⟨#[97]⟩, ⟨#[98, 99, 100]⟩] := h0
    exact same_any h1 (strs_box2 hO List.mem_cons_self)
  have HO := Own.start W
  go_enter Tryd.func7, Tryd.ntmps7
  go_wp2_with (first | (first | go_big_skip | ((with_reducible apply wpList_loadAll HO); exact rfl; exact rfl; (repeat (with_reducible (first | exact At.head _ | apply At.tail))); infer_instance; exact rfl; exact rfl; (simp only [Act.put, List.setIfInBounds_toArray, List.set_cons_succ, List.set_cons_zero])) | ((with_reducible apply wpList_loadOne HO); exact rfl; exact rfl; (repeat (with_reducible (first | exact At.head _ | apply At.tail))); exact rfl; infer_instance; exact rfl; (simp only [Act.put, List.setIfInBounds_toArray, List.set_cons_succ, List.set_cons_zero]))) | ((with_reducible apply wpList_lit2c HO); exact rfl; infer_instance; infer_instance; (first | (simp [Act.eval]; rfl) | exact rfl); (first | (simp [Act.eval]; rfl) | exact rfl); exact rfl; exact rfl; exact rfl; clear HO; intro bx w HO; (simp only [Act.put, List.setIfInBounds_toArray, List.set_cons_succ, List.set_cons_zero])) | (first | ((with_reducible apply wpList_lit1 HO); exact rfl; infer_instance; infer_instance; exact rfl; exact rfl; exact (by decide); exact rfl; clear HO; intro bx w HO; (simp only [Act.put, List.setIfInBounds_toArray, List.set_cons_succ, List.set_cons_zero])) | ((with_reducible apply wpList_lit1c HO); exact rfl; infer_instance; infer_instance; (first | (simp [Act.eval]; rfl) | exact rfl); exact rfl; exact rfl; clear HO; intro bx w HO; (simp only [Act.put, List.setIfInBounds_toArray, List.set_cons_succ, List.set_cons_zero]))) | (go_at_call 10; first | ((with_reducible refine (P1 _ _ _ HO (by repeat (first | exact List.mem_cons_self | apply List.mem_cons_of_mem))).mono ?_); rintro e w ⟨p, c, rfl, HO1⟩; replace HO := HO.lift HO1; clear HO1; simp only [List.cons_append, List.nil_append] at HO) | ((with_reducible refine (P2 _ _ _ HO (by repeat (first | exact List.mem_cons_self | apply List.mem_cons_of_mem))).mono ?_); rintro e w ⟨p2, c2, rfl, HO1⟩; replace HO := HO.call HO1.grown; clear HO1) | ((with_reducible refine (P3 _ _ _ HO (by repeat (first | exact List.mem_cons_self | apply List.mem_cons_of_mem))).mono ?_); rintro e w ⟨p3, c3, rfl, HO1⟩; replace HO := HO.call HO1.grown; clear HO1)) | (go_at_call 8; first | ((with_reducible refine (Q1 _ _ _ _ HO (by repeat (first | exact List.mem_cons_self | apply List.mem_cons_of_mem))).mono ?_); (rintro e w ⟨rfl, hb⟩; replace HO := HO.call hb; clear hb)) | ((with_reducible refine (Q2 _ _ _ _ HO (by repeat (first | exact List.mem_cons_self | apply List.mem_cons_of_mem))).mono ?_); (rintro e w ⟨rfl, hb⟩; replace HO := HO.call hb; clear hb)) | ((with_reducible refine (Q3 _ _ _ _ HO (by repeat (first | exact List.mem_cons_self | apply List.mem_cons_of_mem))).mono ?_); (rintro e w ⟨rfl, hb⟩; replace HO := HO.call hb; clear hb))) | (go_at_call 12; go_must ((with_reducible refine (S1 _ _ _ _ _ HO (by repeat (first | exact List.mem_cons_self | apply List.mem_cons_of_mem))).mono ?_); rintro e w ⟨rfl, hb⟩; replace HO := HO.call hb; clear hb)))
  go_ret
  exact ⟨rfl, HO.grown⟩
end Go.Proofs.YtklommbknfpolaaDoor

/-
  A statement's bytes, by walking the program's text, its literal too; conditions: the rows lie in memory, the table of parties as laid.
-/
import Derived.Test.YtlfphfklcifgpaaDoorRowRefPut
import Derived.Lib.AppendStr
namespace Go.Proofs.YtlfphfklcifgpaaDoor
open Go.RowKit Go.Own

/-- A buffer: block B holds a slice of bytes of the call's own. -/
def Buf (w : World) (B : Nat) (bs : List UInt8) : Prop := ∃ g n c, w.heap[B]? = some (.cells #[.slice g n c] 23 (0, 0)) ∧ w.ownsRow (B + 1) 5 1 (.slice g n c) bs.length (byteVals bs)
theorem Buf.lt {w : World} {B : Nat} {bs : List UInt8} (h : Buf w B bs) : B < w.heap.size := by
  obtain ⟨g, n, c, h, _⟩ := h
  exact lt_of_block h
theorem slice_of_owns {w : World} {base e size n : Nat} {v : Value} {xs : List Value} (h : w.ownsRow base e size v n xs) : ∃ g c, v = .slice g n c := by
  rcases h.2 with ⟨rfl, rfl⟩ | ⟨g, cap, cur, rfl, _⟩
  · exact ⟨_, _, rfl⟩
  · exact ⟨_, _, rfl⟩
/-- What lies above the buffer and is no bytes, stays. -/
theorem own_ne {w : World} {base n A : Nat} {v : Value} {xs : List Value} {o : Array Value} {t : TypeId} (h : w.ownsRow base 5 1 v n xs) (hA : w.heap[A]? = some (.cells o t (0, 0))) (ht : t ≠ 5) : some A ≠ v.ownBlock := by
  rcases h.2 with ⟨rfl, _⟩ | ⟨g, cap, cur, rfl, _, hh, _⟩
  · simp [Value.ownBlock]
  · simp only [Value.ownBlock, ne_eq, Option.some.injEq]
    rintro rfl
    rw [hA] at hh
    simp only [Option.some.injEq, Obj.cells.injEq] at hh
    exact ht hh.2.1
theorem owns_below {W W' : World} {B base e size n : Nat} {v : Value} {xs : List Value} (h : W.ownsRow base e size v n xs) (hb : Below B W W') (hB : W.heap.size ≤ B) : W'.ownsRow base e size v n xs := by
  refine ⟨h.1, ?_⟩
  rcases h.2 with h0 | ⟨g, cap, cur, hv, hg, hh, rest⟩
  · exact .inl h0
  · have hlt := lt_of_block hh
    exact .inr ⟨g, cap, cur, hv, hg, by rw [hb.block g (by omega)]; exact hh, rest⟩
def varsTo (ns : List Nat) : Nat → List UInt8
  | 0 => []
  | j + 1 => varsTo ns j ++ match ns[j]? with
    | some n => varF 10 n
    | none => []
theorem varsTo_succ {ns : List Nat} {j : Nat} (hj : j < ns.length) : varsTo ns (j + 1) = varsTo ns j ++ varF 10 ns[j] := by
  simp [varsTo, List.getElem?_eq_getElem hj]
theorem varsTo_len (ns : List Nat) : ∀ j, (varsTo ns j).length ≤ 10 * j
  | 0 => by simp [varsTo]
  | j + 1 => by
    have ih := varsTo_len ns j
    simp only [varsTo, List.length_append]
    split
    · rename_i n _
      have := varF_len 10 n
      omega
    · simp; omega
theorem strCells_list (l : List UInt8) : Lib.strCells ⟨l.toArray⟩ = byteVals l := by
  simp [Lib.strCells, byteVals]

set_option maxHeartbeats 2000000 in
set_option maxRecDepth 100000 in
theorem put1_any (ns : List Nat) (A B : Nat) (bs : List UInt8) (w : World) (hns : ∀ n ∈ ns, n < 9223372036854775808) (hA : w.heap[A]? = some (.cells (ns.map fun n : Nat => Value.int .i64 (n : Int)).toArray 2 (0, 0))) (hAB : B < A)
    (hB : Buf w B bs) (hl : ns.length ≤ 1000) (hbs : bs.length ≤ 1099511627776) :
    Calls Tryd.prog 83 #[.slice (some ⟨A, 0, none⟩) ns.length ns.length, .pointer (some ⟨B, 0, none⟩)] w fun e w' => e = .returned (.tuple #[]) ∧ Below B w w' ∧ Buf w' B (bs ++ varsTo ns ns.length) := by
  have HA := Lib.hid hA
  have HB := Lib.hid hB
  have hAl := lt_of_block hA
  clear hA hB
  have hmx : (ns.length : Int) ≤ 1000 := by omega
  go_enter Tryd.func83, Tryd.ntmps83
  go_wp2_with fail
  go_loopw [7] (fun k wr => ∃ j : Nat, j ≤ ns.length ∧ k = .int .i64 (j : Int) ∧ Below B w wr ∧ wr.heap[A]? = some (.cells (ns.map fun n : Nat => Value.int .i64 (n : Int)).toArray 2 (0, 0)) ∧ Buf wr B (bs ++ varsTo ns j)) (fun k _ => (ns.length - (intOf k).toNat))
  case atStart => exact ⟨0, by omega, rfl, (by with_reducible (repeat (first | assumption | exact Below.refl _ _ | refine Below.drew ?_ | refine below_drewN ?_ _ | refine Below.alloc ?_ (by first | (simp; done) | omega | (simp; omega)) _ | refine Below.setCell ?_ (by first | (simp; done) | omega | (simp; omega)) _ | refine Below.trans ?_ (Below.mono (by assumption) (by first | (simp; done) | omega | (simp; omega)))))), HA.out, by simpa [varsTo] using HB.out⟩
  case round =>
    obtain ⟨j, hj, rfl, hbr, hAr, hBr⟩ := hrel
    have HBr := Lib.hid hBr
    have HAr := Lib.hid hAr
    by_cases hjl : j = ns.length
    · subst hjl
      clear hAr hBr
      go_wp2_with fail
      refine ⟨rfl, .tuple #[], ?_, rfl, hbr, HBr.out⟩
      simp [results, Tryd.results83, go_sem]
    · have hj1 : j < ns.length := by omega
      have hj2 : (j : Int) < (ns.length : Int) := by omega
      have hBl := hBr.lt
      obtain ⟨g, n, c, hh, hown⟩ := hBr
      have cB := cell_of_one hh
      have fB := free_of_one hh
      have cA : wr.cell? ⟨A, j, none⟩ = some (.int .i64 (ns[j] : Int)) := by
        have := cell_of_row wr A j _ _ (0, 0) hAr
        rw [this]; simp [hj1]
      have hAl2 := lt_of_block hAr
      have hn := hns ns[j] (List.getElem_mem hj1)
      have HS := Lib.hid (varsTo_succ hj1)
      have hlb := varsTo_len ns j
      have hlx : (bs ++ varsTo ns j).length ≤ 1099511627776 + 10000 := by simp only [List.length_append]; omega
      have HH := Lib.hid hh
      have HO := Lib.hid hown
      clear hown hAr hh
      generalize ns[j] = m at *
      have e1 := wrap_u64 m (by omega)
      have V1 := fun w => var_any m w (by omega)
      have l1 := varF_len 10 m
      go_wp2_with fail
      refine region_later_tail 4 (by kernel_rfl) (by kernel_rfl) (by kernel_rfl) (by decide) ?_
      simp only [List.take_succ_cons, List.take_zero, List.drop_succ_cons, List.drop_zero]
      repeat (first | go_big_quiet_step ((go_at_call 59; (with_reducible exact calls_later (by first | exact Nat.le_refl _ | (simp; done)) (V1 _)))) | quiet_step ((go_at_call 59; (with_reducible exact calls_later (by first | exact Nat.le_refl _ | (simp; done)) (V1 _)))))
      refine wpQuiet_nil ?_
      intro w1 hb
      obtain ⟨hc, hf⟩ := bcell hb
      have hz := hb.size
      have HH1 : Hid (w1.heap[B]? = _) := Lib.hid ((hb.block B hBl).trans HH.out)
      have HA1 : Hid (w1.heap[A]? = _) := Lib.hid ((hb.block A hAl2).trans HAr.out)
      have hown1 := owns_below HO.out hb (Nat.le_refl _)
      obtain ⟨i0, hi, hz0, hz1, hz2⟩ := info_parts infoU8
      refine Lib.wpList_append_own_string _ rfl _ _ 23 9 rfl (B + 1) 5 i0 Tryd.underlying23 Tryd.underlying9 hi hz0 hz1 hz2 _ _ _ rfl hown1 _ rfl ?c1 ?c2 ?c3 ?_
      case c1 => simp only [ByteArray.size, List.size_toArray]; unfold maxLen; omega
      case c2 => simp only [ByteArray.size, List.size_toArray]; omega
      case c3 => omega
      intro v' w2 hown2 hg _
      obtain ⟨g', c', rfl⟩ := slice_of_owns hown2
      have hne : some A ≠ (Value.slice g n c).ownBlock := own_ne hown1 HA1.out (by decide)
      have hneB : some B ≠ (Value.slice g n c).ownBlock := fun e => by have := (hown1.lt B e.symm).1; omega
      have hB2 := (hg.block B (by omega) hneB).trans HH1.out
      have hA2 := (hg.block A (by omega) hne).trans HA1.out
      have cB2 := cell_of_one hB2
      have fB2 := free_of_one hB2
      have HB2 := Lib.hid hB2
      have HA2 := Lib.hid hA2
      have HO2 := Lib.hid hown2
      have hs2 := hg.size
      have HW := Lib.hid (show Below B w w2 from (hbr.trans (hb.mono (by omega))).grown hg (by omega) (fun k hk => by have := (hown1.lt k hk).1; omega))
      clear hB2 hA2 hown2 hown1 hne hneB hc hf cB fB cA hg
      go_wp2_with fail
      go_roundw
      case rel =>
        refine ⟨j + 1, by omega, by go_num, HW.out.setCell (Nat.le_refl _) _, ?_, ?_⟩
        · rw [Below.heap_setCell _ _ _ _ (by simp; omega)]; exact HA2.out
        · refine ⟨_, _, _, one_setCell HB2.out, ?_⟩
          have := ownsRow_setCell_below HO2.out (a := ⟨B, 0, none⟩) (by simp) (.slice g' ((bs ++ varsTo ns j).length + (ByteArray.mk (varF 10 m).toArray).size) c')
          rw [HS.out]
          have e : bs ++ (varsTo ns j ++ varF 10 m) = (bs ++ varsTo ns j) ++ varF 10 m := by simp
          rw [e]
          simpa [strCells_list, byteVals, ByteArray.size, Nat.add_assoc] using this
      case measure => simp [intOf] <;> omega

theorem Buf.alloc {w : World} {B : Nat} {bs : List UInt8} (h : Buf w B bs) (o : Obj) : Buf (w.alloc o) B bs := by
  have hl := h.lt
  obtain ⟨g, n, c, hh, hown⟩ := h
  exact ⟨g, n, c, by rw [Below.heap_alloc _ _ _ hl]; exact hh, hown.alloc o⟩
theorem Buf.new (w : World) : Buf (w.alloc (.cells #[.slice none 0 0] 23)) w.heap.size [] :=
  ⟨none, 0, 0, heap_alloc_new w _, World.ownsRow_nil _ _ _ _⟩
theorem put3 (a b c A B : Nat) (bs : List UInt8) (w : World) (h1 : a < 9223372036854775808) (h2 : b < 9223372036854775808) (h3 : c < 9223372036854775808)
    (hA : w.heap[A]? = some (.cells #[.int .i64 a, .int .i64 b, .int .i64 c] 2 (0, 0))) (hAB : B < A) (hB : Buf w B bs) (hbs : bs.length ≤ 1099511627776) :
    Calls Tryd.prog 83 #[.slice (some ⟨A, 0, none⟩) 3 3, .pointer (some ⟨B, 0, none⟩)] w fun e w' => e = .returned (.tuple #[]) ∧ Below B w w' ∧ Buf w' B (bs ++ (varF 10 a ++ (varF 10 b ++ varF 10 c))) := by
  have := put1_any [a, b, c] A B bs w (by simp; omega) (by simpa using hA) hAB hB (by simp) hbs
  simpa [varsTo] using this
theorem put5 (a b c d e A B : Nat) (bs : List UInt8) (w : World) (h1 : a < 9223372036854775808) (h2 : b < 9223372036854775808) (h3 : c < 9223372036854775808) (h4 : d < 9223372036854775808) (h5 : e < 9223372036854775808)
    (hA : w.heap[A]? = some (.cells #[.int .i64 a, .int .i64 b, .int .i64 c, .int .i64 d, .int .i64 e] 2 (0, 0))) (hAB : B < A) (hB : Buf w B bs) (hbs : bs.length ≤ 1099511627776) :
    Calls Tryd.prog 83 #[.slice (some ⟨A, 0, none⟩) 5 5, .pointer (some ⟨B, 0, none⟩)] w fun e' w' => e' = .returned (.tuple #[]) ∧ Below B w w' ∧ Buf w' B (bs ++ (varF 10 a ++ (varF 10 b ++ (varF 10 c ++ (varF 10 d ++ varF 10 e))))) := by
  have := put1_any [a, b, c, d, e] A B bs w (by simp; omega) (by simpa using hA) hAB hB (by simp) hbs
  simpa [varsTo] using this
theorem varF_pos (n k : Nat) : 0 < (varF (k + 1) n).length := by
  rw [varF]; split <;> simp
theorem headB_pos (p q : Int) (n : Nat) : 0 < (headB p q n).length := by
  have := varF_pos p.toNat 9
  simp only [headB, List.length_append]; simp only [Nat.reduceAdd] at this; omega
theorem buf_string {w : World} {B : Nat} {bs : List UInt8} {g : Option Addr} {n c : Nat} (hown : w.ownsRow (B + 1) 5 1 (.slice g n c) bs.length (byteVals bs)) (hp : 0 < bs.length) :
    (convert 23 9 (.slice g n c)).run Tryd.prog w = .ok (.string ⟨bs.toArray⟩) w := by
  refine run_string_owned (P := Tryd.prog) Tryd.underlying23 Tryd.underlying5 Tryd.underlying9 hown (fun e => ?_)
  rcases hown.2 with ⟨_, h0⟩ | ⟨g', cap, cur, hv, _⟩
  · omega
  · rw [hv] at e; cases e

set_option maxHeartbeats 4000000 in
set_option maxRecDepth 100000 in
theorem putStmt_any {w : World} {v : Value} {rs : List RowS} (p q : Int) (h : IsRows w v rs) (hL : Laid w) :
    Calls Tryd.prog 61 #[.agg #[.int .i64 p, .int .i64 q, v]] w fun e w' => e = .returned (.string ⟨(putStmt p q rs).toArray⟩) ∧ Below w.heap.size w w' := by
  have hC := fun w' (hb : Below w.heap.size w w') => rowsValid_any p q (h.below hb h.lt) (hL.below hb hL.1)
  obtain ⟨sp, sc, rfl, hmx0⟩ := h.slice
  have hmx : (rs.length : Int) ≤ 9223372036854775807 := by unfold maxLen at hmx0; omega
  cases hk : okStmt p q rs
  · rw [hk] at hC
    have HQ := Lib.hid (show putStmt p q rs = [] by simp [putStmt, hk])
    clear hk h hL
    go_enter Tryd.func61, Tryd.ntmps61
    go_wp2_with (go_at_call 44; go_must ((with_reducible refine (hC _ (by with_reducible (repeat (first | assumption | exact Below.refl _ _ | refine Below.drew ?_ | refine below_drewN ?_ _ | refine Below.alloc ?_ (by first | (simp; done) | omega | (simp; omega)) _ | refine Below.setCell ?_ (by first | (simp; done) | omega | (simp; omega)) _ | refine Below.trans ?_ (Below.mono (by assumption) (by first | (simp; done) | omega | (simp; omega))))))).mono ?_); rintro e w1 ⟨rfl, hb⟩; obtain ⟨hc, hf⟩ := bcell hb; have hz := hb.size; (try simp at hz); (try have hzT := Nat.lt_of_succ_le hz); have hzA : w.heap.size < w1.heap.size := (by omega); have hzA2 := Nat.le_of_lt hzA))
    go_ret
    exact ⟨ret_list (by rw [HQ.out]), (by with_reducible (repeat (first | assumption | exact Below.refl _ _ | refine Below.drew ?_ | refine below_drewN ?_ _ | refine Below.alloc ?_ (by first | (simp; done) | omega | (simp; omega)) _ | refine Below.setCell ?_ (by first | (simp; done) | omega | (simp; omega)) _ | refine Below.trans ?_ (Below.mono (by assumption) (by first | (simp; done) | omega | (simp; omega))))))⟩
  · have HQ := Lib.hid (show putStmt p q rs = headB p q rs.length ++ bytesTo rs rs.length by simp [putStmt, hk])
    obtain ⟨q1, q2, p1, p2, hl4, hck⟩ := okStmt_ok hk
    have HP := Lib.hid (fun j hj => rowBounds (@chkRows_row rs p hck j hj).1)
    have HH := Lib.hid h
    rw [hk] at hC
    clear hk h hck hL
    obtain ⟨i, rfl⟩ := Int.eq_ofNat_of_zero_le (show 0 ≤ p by omega)
    obtain ⟨k, rfl⟩ := Int.eq_ofNat_of_zero_le (show 0 ≤ q by omega)
    go_enter Tryd.func61, Tryd.ntmps61
    go_wp2_with (go_at_call 44; go_must ((with_reducible refine (hC _ (by with_reducible (repeat (first | assumption | exact Below.refl _ _ | refine Below.drew ?_ | refine below_drewN ?_ _ | refine Below.alloc ?_ (by first | (simp; done) | omega | (simp; omega)) _ | refine Below.setCell ?_ (by first | (simp; done) | omega | (simp; omega)) _ | refine Below.trans ?_ (Below.mono (by assumption) (by first | (simp; done) | omega | (simp; omega))))))).mono ?_); rintro e w1 ⟨rfl, hb⟩; obtain ⟨hc, hf⟩ := bcell hb; have hz := hb.size; (try simp at hz); (try have hzT := Nat.lt_of_succ_le hz); have hzA : w.heap.size < w1.heap.size := (by omega); have hzA2 := Nat.le_of_lt hzA))
    clear hC
    refine (put3 i k rs.length (w1.heap.size + 1) w1.heap.size [] _ (by omega) (by omega) (by omega) ?h1 (by omega) ((Buf.new w1).alloc _) (by simp)).mono ?_
    case h1 => exact (by have := heap_alloc_new (w1.alloc (.cells #[.slice none 0 0] 23)) (.cells #[.int .i64 i, .int .i64 k, .int .i64 rs.length] 2); simpa using this)
    rintro e w2 ⟨rfl, hb2, hB2⟩
    have HB2 := Lib.hid hB2
    have hz2 := hb2.size
    simp at hz2
    have hw12 : Below w1.heap.size w1 w2 := Below.trans (((Below.refl _ _).alloc (Nat.le_refl _) _).alloc (by simp) _) hb2
    clear hB2 hb2
    obtain ⟨hc2, hf2⟩ := bcell hw12
    have hsz2 := hw12.size
    go_wp2_with fail
    go_loopw [24] (fun k' wr => ∃ j : Nat, j ≤ rs.length ∧ k' = .int .i64 (j : Int) ∧ Below w1.heap.size w1 wr ∧ Buf wr w1.heap.size (headB i k rs.length ++ bytesTo rs j)) (fun k' _ => (rs.length - (intOf k').toNat))
    case atStart => exact ⟨0, by omega, rfl, hw12, by simpa [headB, bytesTo] using HB2.out⟩
    case round =>
      obtain ⟨j, hj, rfl, hbr, hBr⟩ := hrel
      have hbw : Below w.heap.size w wr := Below.trans (by with_reducible (repeat (first | assumption | exact Below.refl _ _ | refine Below.drew ?_ | refine below_drewN ?_ _ | refine Below.alloc ?_ (by first | (simp; done) | omega | (simp; omega)) _ | refine Below.setCell ?_ (by first | (simp; done) | omega | (simp; omega)) _ | refine Below.trans ?_ (Below.mono (by assumption) (by first | (simp; done) | omega | (simp; omega)))))) (hbr.mono (by omega))
      clear hc2 hf2
      obtain ⟨hc2, hf2⟩ := bcell hbr
      have hzr := hbr.size
      have hBl := hBr.lt
      have HBr := Lib.hid hBr
      by_cases hjl : j = rs.length
      · subst hjl
        obtain ⟨g, n, c, hh, hown⟩ := hBr
        have cB := cell_of_one hh
        have hlp := headB_pos i k rs.length
        have hcv := buf_string hown (by simp only [List.length_append]; omega)
        clear hh hown
        go_wp2_with fail
        go_ret
        exact ⟨ret_list (by rw [HQ.out]), (by with_reducible (repeat (first | assumption | exact Below.refl _ _ | refine Below.drew ?_ | refine below_drewN ?_ _ | refine Below.alloc ?_ (by first | (simp; done) | omega | (simp; omega)) _ | refine Below.setCell ?_ (by first | (simp; done) | omega | (simp; omega)) _ | refine Below.trans ?_ (Below.mono (by assumption) (by first | (simp; done) | omega | (simp; omega))))))⟩
      · have hj1 : j < rs.length := by omega
        have hj2 : (j : Int) < (rs.length : Int) := by omega
        obtain ⟨a, cap, hv, hlen, hcap, hR⟩ := HH.out.at (by omega)
        obtain ⟨rfl, -, rfl⟩ : sp = some a ∧ rs.length = rs.length ∧ sc = cap := by simpa using hv
        have hRr := hR.below hbw hR.lt
        have c0 := hRr.c0 j hj1
        have c1 := hRr.c1 j hj1
        have c2 := hRr.c2 j hj1
        have c3 := hRr.c3 j hj1
        have c4 := hRr.c4 j hj1
        have hb0 : (a.add (j * 5)).block < wr.heap.size := hRr.lt' _
        obtain ⟨b1, b2, b3, b4, b5, b6, b7, b8, b9, b10⟩ := HP.out j hj1
        have HS := Lib.hid (bytesTo_succ hj1)
        have hl5 := bytesTo_len rs j
        have hl6 := headB_len i k rs.length
        clear hRr hR hv hBr
        generalize rs[j] = r at *
        obtain ⟨o, d, code, amt, qty⟩ := r
        simp only at c0 c1 c2 c3 c4 b1 b2 b3 b4 b5 b6 b7 b8 b9 b10
        obtain ⟨o, rfl⟩ := Int.eq_ofNat_of_zero_le (show 0 ≤ o by omega)
        obtain ⟨d, rfl⟩ := Int.eq_ofNat_of_zero_le (show 0 ≤ d by omega)
        obtain ⟨code, rfl⟩ := Int.eq_ofNat_of_zero_le (show 0 ≤ code by omega)
        obtain ⟨amt, rfl⟩ := Int.eq_ofNat_of_zero_le (show 0 ≤ amt by omega)
        obtain ⟨qty, rfl⟩ := Int.eq_ofNat_of_zero_le (show 0 ≤ qty by omega)
        have HO := Lib.hid (show headB i k rs.length ++ bytesTo rs (j + 1) = (headB i k rs.length ++ bytesTo rs j) ++ (varF 10 o ++ (varF 10 d ++ (varF 10 code ++ (varF 10 amt ++ varF 10 qty)))) by
          rw [HS.out]; simp only [rowBytes, Int.toNat_natCast, List.append_assoc])
        have hl7 : (headB i k rs.length ++ bytesTo rs j).length ≤ 30 + 50 * 400 := by simp only [List.length_append]; omega
        generalize headB i k rs.length ++ bytesTo rs j = X at *
        go_wp2_with fail
        refine (put5 o d code amt qty (wr.heap.size + 1) w1.heap.size X _ (by omega) (by omega) (by omega) (by omega) (by omega) ?h2 (by omega) ((HBr.out.alloc _).alloc _) (by omega)).mono ?_
        case h2 => exact (by have := heap_alloc_new (wr.alloc (.cells #[.int .i64 o, .int .i64 d, .int .i64 code, .int .i64 amt, .int .i64 qty] 45)) (.cells #[.int .i64 o, .int .i64 d, .int .i64 code, .int .i64 amt, .int .i64 qty] 2); simpa using this)
        rintro e w3 ⟨rfl, hb3, hB3⟩
        have HB3 := Lib.hid hB3
        have hw13 : Below w1.heap.size w1 w3 := Below.trans ((hbr.alloc hzr _).alloc (by simp; omega) _) hb3
        clear hB3 hb3
        go_wp2_with fail
        go_roundw
        case rel => exact ⟨j + 1, by omega, by go_num, hw13, by rw [HO.out]; exact HB3.out⟩
        case measure => simp [intOf] <;> omega
end Go.Proofs.YtlfphfklcifgpaaDoor

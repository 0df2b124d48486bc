/-
  Whether rows may be a party's, by walking both texts; conditions: the rows lie in memory, the table of parties as laid.
  Whether rows may be a party's, by walking the document's text: the same; conditions: the rows lie in memory.
  Whether a statement may be, by walking both texts; conditions: the rows lie in memory, the table of parties as laid.
  Whether two statements are the same, by walking the document's text; conditions: the rows lie in memory.
  What a row of a party's rows keeps within; conditions: none.
  A statement's bytes, by walking the document's text; conditions: the rows lie in memory.
  The statement of some bytes, by walking the document's text; conditions: texts that are not too long.
  Rows seen as structs that lie in memory one behind the other; conditions: none.
  Maps whose keys are those of deeds; conditions: none.
  What an intake is, and whether a statement is accepted; conditions: none.
  Rows that may be stand in order; conditions: none.
  What an intake says of a deed: of its map, and of its rows; conditions: none.
  What an intake says of a deed, and of an order, by walking the program's text; conditions: the rows lie in memory, its map bears them.
-/
import Derived.KernelRfl
import Derived.Test.YtibabfedpdoofaaGreatDoorQa1
import Derived.Test.YtibabfedpdoofaaGreatDoorQa2
import Derived.Test.YtibabfedpdoofaaGreatDoorQa3
namespace Go.Proofs.YtibabfedpdoofaaGreatDoor
open Go.RowKit Go.Own

/-- Rows lie in memory, one behind the other, from a on. -/
structure RowsAt (w : World) (a : Addr) (rs : List RowS) : Prop where
  lt : a.block < w.heap.size
  c0 : ∀ i (h : i < rs.length), w.cell? (a.add (i * 5)) = some (.int .i64 rs[i].o)
  c1 : ∀ i (h : i < rs.length), w.cell? ⟨(a.add (i * 5)).block, (a.add (i * 5)).off + 1, none⟩ = some (.int .i64 rs[i].d)
  c2 : ∀ i (h : i < rs.length), w.cell? ⟨(a.add (i * 5)).block, (a.add (i * 5)).off + 2, none⟩ = some (.int .i64 rs[i].code)
  c3 : ∀ i (h : i < rs.length), w.cell? ⟨(a.add (i * 5)).block, (a.add (i * 5)).off + 3, none⟩ = some (.int .i64 rs[i].amt)
  c4 : ∀ i (h : i < rs.length), w.cell? ⟨(a.add (i * 5)).block, (a.add (i * 5)).off + 4, none⟩ = some (.int .i64 rs[i].qty)
theorem add_block (a : Addr) (n : Nat) : (a.add n).block = a.block := by unfold Addr.add; split <;> rfl
theorem RowsAt.below {B : Nat} {w w' : World} {a : Addr} {rs : List RowS} (h : RowsAt w a rs) (hb : Below B w w') (hB : a.block < B) : RowsAt w' a rs := by
  have e : ∀ c : Addr, c.block = a.block → w'.cell? c = w.cell? c := fun c hc => World.cell?_of_block (w := w) (a := c) (hb.block _ (by rw [hc]; exact hB))
  have e2 : ∀ i k, w'.cell? ⟨(a.add (i * 5)).block, (a.add (i * 5)).off + k, none⟩ = w.cell? ⟨(a.add (i * 5)).block, (a.add (i * 5)).off + k, none⟩ := fun i k => e _ (add_block a (i * 5))
  have hs := hb.size
  obtain ⟨h0, h1, h2, h3, h4, h5⟩ := h
  exact ⟨by omega, fun i hi => (e _ (add_block _ _)).trans (h1 i hi), fun i hi => (e2 i 1).trans (h2 i hi), fun i hi => (e2 i 2).trans (h3 i hi), fun i hi => (e2 i 3).trans (h4 i hi), fun i hi => (e2 i 4).trans (h5 i hi)⟩

@[go_sem] theorem later_cell_any (W : World) (B : Nat) (x : World) (c : Addr) (h : c.block < B) : (later W B x).cell? c = W.cell? c := (later_below W B x).cell (p := c) h
@[go_sem] theorem alloc_cell_any (w : World) (o : Obj) (c : Addr) (h : c.block < w.heap.size) : (w.alloc o).cell? c = w.cell? c := ((Below.refl w.heap.size w).alloc (Nat.le_refl _) o).cell (p := c) h

def rowOkAt (rs : List RowS) (p : Int) (i : Nat) : Bool := match rs[i]? with
  | some r => mayRow r p && (decide (i = 0) || match rs[i - 1]? with
    | some q => keyLess q.o q.d r.o r.d
    | none => true)
  | none => true
def chkRows (rs : List RowS) (p : Int) : Bool := decide (0 ≤ p) && decide (p ≤ 2) && decide (rs.length ≤ 400) && (List.range rs.length).all (rowOkAt rs p)

theorem RowsAt.lt' {w : World} {a : Addr} {rs : List RowS} (h : RowsAt w a rs) (n : Nat) : (a.add n).block < w.heap.size := by rw [add_block]; exact h.lt
theorem chkRows_no {rs : List RowS} {p : Int} {i : Nat} (h : i < rs.length) (hf : rowOkAt rs p i = false) : chkRows rs p = false := by
  have : (List.range rs.length).all (rowOkAt rs p) = false := by
    rw [List.all_eq_false]
    exact ⟨i, by simpa using h, by simp [hf]⟩
  simp [chkRows, this]

set_option maxHeartbeats 4000000 in
set_option maxRecDepth 100000 in
theorem rowsCheck_some (rs : List RowS) (a : Addr) (cap : Nat) (p : Int) (w : World) (_hlen : rs.length ≤ cap) (_hcap : cap ≤ maxLen) (hR : RowsAt w a rs) (hL : Laid w) :
    Calls Tryz.prog 175 #[.slice (some a) rs.length cap, .int .i64 p] w fun e w' => e = .returned (.bool (chkRows rs p)) ∧ Below w.heap.size w w' := by
  have HR := Lib.hid hR
  have HL := Lib.hid hL
  have hpos : 2 < w.heap.size := hL.1
  have hlt := hR.lt
  clear hL hR
  by_cases hp : 0 ≤ p ∧ p ≤ 2 ∧ rs.length ≤ 400
  · obtain ⟨hp0, hp2, hl⟩ := hp
    have hl1 : (rs.length : Int) ≤ 400 := by omega
    go_enter Tryz.func175, Tryz.ntmps175
    go_wp2_with fail
    go_loopw [5, 6, 20] (fun _ _ k wr => ∃ j : Nat, j ≤ rs.length ∧ k = .int .i64 (j : Int) ∧ Below w.heap.size w wr ∧ ∀ i, i < j → rowOkAt rs p i = true) (fun _ _ k _ => (rs.length - (intOf k).toNat))
    case atStart => exact ⟨0, by omega, rfl, Below.refl _ _, by omega⟩
    case round =>
      obtain ⟨j, hj, rfl, hbr, hok⟩ := hrel
      by_cases hjl : j = rs.length
      · subst hjl
        go_wp2_with fail
        go_ret
        refine ⟨ret_bool ?_, hbr⟩
        simp [chkRows, hp0, hp2, hl]
        exact fun i hi => hok i hi
      · have hj1 : j < rs.length := by omega
        have hj2 : (j : Int) < (rs.length : Int) := by omega
        have hRr := HR.out.below hbr hlt
        have c0 := hRr.c0 j hj1
        have c1 := hRr.c1 j hj1
        have c2 := hRr.c2 j hj1
        have c3 := hRr.c3 j hj1
        have c4 := hRr.c4 j hj1
        have hb0 : (a.add (j * 5)).block < wr.heap.size := hRr.lt' _
        have hM := fun w h => rowMay_any rs[j] p w h
        have hg : rs[j]? = some rs[j] := List.getElem?_eq_getElem hj1
        simp only [RowS.v] at hM
        have hzr := hbr.size
        cases hm : mayRow rs[j] p
        · rw [hm] at hM
          have HQ := Lib.hid (show chkRows rs p = false from chkRows_no (i := j) hj1 (by simp [rowOkAt, hg, hm]))
          go_wp2_with fail
          refine region_later (by kernel_rfl) (by kernel_rfl) ?_
          repeat (first | go_big_quiet_step ((go_at_call 188; (with_reducible exact calls_later (by first | exact Nat.le_refl _ | (simp; done)) (hM _ (HL.out.deep hpos (by with_reducible (repeat (first | assumption | exact Below.refl _ _ | refine Below.drew ?_ | refine below_drewN ?_ _ | refine Below.alloc ?_ (by first | (simp; done) | omega | (simp; omega)) _ | refine Below.setCell ?_ (by first | (simp; done) | omega | (simp; omega)) _ | refine Below.trans ?_ (Below.mono (by assumption) (by first | (simp; done) | omega | (simp; omega)))))) (by first | omega | (simp; omega))))))) | quiet_step ((go_at_call 188; (with_reducible exact calls_later (by first | exact Nat.le_refl _ | (simp; done)) (hM _ (HL.out.deep hpos (by with_reducible (repeat (first | assumption | exact Below.refl _ _ | refine Below.drew ?_ | refine below_drewN ?_ _ | refine Below.alloc ?_ (by first | (simp; done) | omega | (simp; omega)) _ | refine Below.setCell ?_ (by first | (simp; done) | omega | (simp; omega)) _ | refine Below.trans ?_ (Below.mono (by assumption) (by first | (simp; done) | omega | (simp; omega)))))) (by first | omega | (simp; omega))))))))
          refine wpQuiet_nil ?_
          intro w1 hb
          obtain ⟨hc, hf⟩ := bcell hb
          go_wp2_with fail
          go_ret
          exact ⟨by rw [HQ.out]; rfl, (by with_reducible (repeat (first | assumption | exact Below.refl _ _ | refine Below.drew ?_ | refine below_drewN ?_ _ | refine Below.alloc ?_ (by first | (simp; done) | omega | (simp; omega)) _ | refine Below.setCell ?_ (by first | (simp; done) | omega | (simp; omega)) _ | refine Below.trans ?_ (Below.mono (by assumption) (by first | (simp; done) | omega | (simp; omega))))))⟩
        · rw [hm] at hM
          by_cases hj0 : j = 0
          · have hji : ¬ 0 < j := by omega
            have hok2 : ∀ k, k < j + 1 → rowOkAt rs p k = true := by
              intro k hk
              obtain rfl : k = j := by omega
              simp only [rowOkAt, hg, hm, Bool.true_and, Bool.or_eq_true, decide_eq_true_eq]
              exact .inl hj0
            clear hj0
            go_wp2_with fail
            refine region_later (by kernel_rfl) (by kernel_rfl) ?_
            repeat (first | go_big_quiet_step ((go_at_call 188; (with_reducible exact calls_later (by first | exact Nat.le_refl _ | (simp; done)) (hM _ (HL.out.deep hpos (by with_reducible (repeat (first | assumption | exact Below.refl _ _ | refine Below.drew ?_ | refine below_drewN ?_ _ | refine Below.alloc ?_ (by first | (simp; done) | omega | (simp; omega)) _ | refine Below.setCell ?_ (by first | (simp; done) | omega | (simp; omega)) _ | refine Below.trans ?_ (Below.mono (by assumption) (by first | (simp; done) | omega | (simp; omega)))))) (by first | omega | (simp; omega))))))) | quiet_step ((go_at_call 188; (with_reducible exact calls_later (by first | exact Nat.le_refl _ | (simp; done)) (hM _ (HL.out.deep hpos (by with_reducible (repeat (first | assumption | exact Below.refl _ _ | refine Below.drew ?_ | refine below_drewN ?_ _ | refine Below.alloc ?_ (by first | (simp; done) | omega | (simp; omega)) _ | refine Below.setCell ?_ (by first | (simp; done) | omega | (simp; omega)) _ | refine Below.trans ?_ (Below.mono (by assumption) (by first | (simp; done) | omega | (simp; omega)))))) (by first | omega | (simp; omega))))))))
            refine wpQuiet_nil ?_
            intro w1 hb
            obtain ⟨hc, hf⟩ := bcell hb
            go_wp2_with fail
            go_roundw
            case rel => exact ⟨j + 1, by omega, by go_num, (by with_reducible (repeat (first | assumption | exact Below.refl _ _ | refine Below.drew ?_ | refine below_drewN ?_ _ | refine Below.alloc ?_ (by first | (simp; done) | omega | (simp; omega)) _ | refine Below.setCell ?_ (by first | (simp; done) | omega | (simp; omega)) _ | refine Below.trans ?_ (Below.mono (by assumption) (by first | (simp; done) | omega | (simp; omega)))))), hok2⟩
            case measure => simp [intOf] <;> omega
          · obtain ⟨i, rfl⟩ : ∃ i, j = i + 1 := ⟨j - 1, by omega⟩
            have hi1 : i < rs.length := by omega
            have d0 := hRr.c0 i hi1
            have d1 := hRr.c1 i hi1
            have hb1 : (a.add (i * 5)).block < wr.heap.size := hRr.lt' _
            have hb2 : (a.add (i * 5)).block < wr.heap.size + 1 := by omega
            have hb3 : (a.add (i * 5)).block ≠ wr.heap.size := by omega
            have hb4 : wr.heap.size ≠ (a.add (i * 5)).block := by omega
            have hK := fun w => less_any rs[i].o rs[i].d rs[i + 1].o rs[i + 1].d w
            have hgi : rs[i]? = some rs[i] := List.getElem?_eq_getElem hi1
            have hj3 : (((i + 1 : Nat)) : Int) - 1 = (i : Int) := by omega
            have hi3 : (i : Int) < (rs.length : Int) := by omega
            have hi4 : (0 : Int) < ((i + 1 : Nat) : Int) := by omega
            cases hk : keyLess rs[i].o rs[i].d rs[i + 1].o rs[i + 1].d
            · rw [hk] at hK
              have HQ := Lib.hid (show chkRows rs p = false from chkRows_no (i := i + 1) hj1 (by simp [rowOkAt, hg, hm, hgi, hk]))
              go_wp2_with fail
              refine region_later (by kernel_rfl) (by kernel_rfl) ?_
              repeat (first | go_big_quiet_step ((first | (go_at_call 188; (with_reducible exact calls_later (by first | exact Nat.le_refl _ | (simp; done)) (hM _ (HL.out.deep hpos (by with_reducible (repeat (first | assumption | exact Below.refl _ _ | refine Below.drew ?_ | refine below_drewN ?_ _ | refine Below.alloc ?_ (by first | (simp; done) | omega | (simp; omega)) _ | refine Below.setCell ?_ (by first | (simp; done) | omega | (simp; omega)) _ | refine Below.trans ?_ (Below.mono (by assumption) (by first | (simp; done) | omega | (simp; omega)))))) (by first | omega | (simp; omega)))))) | (go_at_call 189; (with_reducible exact calls_later (by first | exact Nat.le_refl _ | (simp; done)) (hK _))))) | quiet_step ((first | (go_at_call 188; (with_reducible exact calls_later (by first | exact Nat.le_refl _ | (simp; done)) (hM _ (HL.out.deep hpos (by with_reducible (repeat (first | assumption | exact Below.refl _ _ | refine Below.drew ?_ | refine below_drewN ?_ _ | refine Below.alloc ?_ (by first | (simp; done) | omega | (simp; omega)) _ | refine Below.setCell ?_ (by first | (simp; done) | omega | (simp; omega)) _ | refine Below.trans ?_ (Below.mono (by assumption) (by first | (simp; done) | omega | (simp; omega)))))) (by first | omega | (simp; omega)))))) | (go_at_call 189; (with_reducible exact calls_later (by first | exact Nat.le_refl _ | (simp; done)) (hK _))))))
              refine wpQuiet_nil ?_
              intro w1 hb
              obtain ⟨hc, hf⟩ := bcell hb
              go_wp2_with fail
              go_ret
              exact ⟨by rw [HQ.out]; rfl, (by with_reducible (repeat (first | assumption | exact Below.refl _ _ | refine Below.drew ?_ | refine below_drewN ?_ _ | refine Below.alloc ?_ (by first | (simp; done) | omega | (simp; omega)) _ | refine Below.setCell ?_ (by first | (simp; done) | omega | (simp; omega)) _ | refine Below.trans ?_ (Below.mono (by assumption) (by first | (simp; done) | omega | (simp; omega))))))⟩
            · rw [hk] at hK
              have hok2 : ∀ k, k < i + 2 → rowOkAt rs p k = true := by
                intro k hk2
                rcases Nat.lt_or_ge k (i + 1) with h | h
                · exact hok k h
                · obtain rfl : k = i + 1 := by omega
                  simp [rowOkAt, hg, hm, hgi, hk]
              go_wp2_with fail
              refine region_later (by kernel_rfl) (by kernel_rfl) ?_
              repeat (first | go_big_quiet_step ((first | (go_at_call 188; (with_reducible exact calls_later (by first | exact Nat.le_refl _ | (simp; done)) (hM _ (HL.out.deep hpos (by with_reducible (repeat (first | assumption | exact Below.refl _ _ | refine Below.drew ?_ | refine below_drewN ?_ _ | refine Below.alloc ?_ (by first | (simp; done) | omega | (simp; omega)) _ | refine Below.setCell ?_ (by first | (simp; done) | omega | (simp; omega)) _ | refine Below.trans ?_ (Below.mono (by assumption) (by first | (simp; done) | omega | (simp; omega)))))) (by first | omega | (simp; omega)))))) | (go_at_call 189; (with_reducible exact calls_later (by first | exact Nat.le_refl _ | (simp; done)) (hK _))))) | quiet_step ((first | (go_at_call 188; (with_reducible exact calls_later (by first | exact Nat.le_refl _ | (simp; done)) (hM _ (HL.out.deep hpos (by with_reducible (repeat (first | assumption | exact Below.refl _ _ | refine Below.drew ?_ | refine below_drewN ?_ _ | refine Below.alloc ?_ (by first | (simp; done) | omega | (simp; omega)) _ | refine Below.setCell ?_ (by first | (simp; done) | omega | (simp; omega)) _ | refine Below.trans ?_ (Below.mono (by assumption) (by first | (simp; done) | omega | (simp; omega)))))) (by first | omega | (simp; omega)))))) | (go_at_call 189; (with_reducible exact calls_later (by first | exact Nat.le_refl _ | (simp; done)) (hK _))))))
              refine wpQuiet_nil ?_
              intro w1 hb
              obtain ⟨hc, hf⟩ := bcell hb
              go_wp2_with fail
              go_roundw
              case rel => exact ⟨i + 2, by omega, by go_num, (by with_reducible (repeat (first | assumption | exact Below.refl _ _ | refine Below.drew ?_ | refine below_drewN ?_ _ | refine Below.alloc ?_ (by first | (simp; done) | omega | (simp; omega)) _ | refine Below.setCell ?_ (by first | (simp; done) | omega | (simp; omega)) _ | refine Below.trans ?_ (Below.mono (by assumption) (by first | (simp; done) | omega | (simp; omega)))))), hok2⟩
              case measure => simp [intOf] <;> omega
  · have hQ : chkRows rs p = false := by simp only [chkRows]; simp; omega
    have HQ := Lib.hid hQ
    clear hQ
    by_cases h0 : p < 0
    · go_enter Tryz.func175, Tryz.ntmps175
      go_wp2_with fail
      go_ret
      exact ⟨by rw [HQ.out]; rfl, (by with_reducible (repeat (first | assumption | exact Below.refl _ _ | refine Below.drew ?_ | refine below_drewN ?_ _ | refine Below.alloc ?_ (by first | (simp; done) | omega | (simp; omega)) _ | refine Below.setCell ?_ (by first | (simp; done) | omega | (simp; omega)) _ | refine Below.trans ?_ (Below.mono (by assumption) (by first | (simp; done) | omega | (simp; omega))))))⟩
    · by_cases h2 : 2 < p
      · go_enter Tryz.func175, Tryz.ntmps175
        go_wp2_with fail
        go_ret
        exact ⟨by rw [HQ.out]; rfl, (by with_reducible (repeat (first | assumption | exact Below.refl _ _ | refine Below.drew ?_ | refine below_drewN ?_ _ | refine Below.alloc ?_ (by first | (simp; done) | omega | (simp; omega)) _ | refine Below.setCell ?_ (by first | (simp; done) | omega | (simp; omega)) _ | refine Below.trans ?_ (Below.mono (by assumption) (by first | (simp; done) | omega | (simp; omega))))))⟩
      · have h4 : (400 : Int) < (rs.length : Int) := by omega
        go_enter Tryz.func175, Tryz.ntmps175
        go_wp2_with fail
        go_ret
        exact ⟨by rw [HQ.out]; rfl, (by with_reducible (repeat (first | assumption | exact Below.refl _ _ | refine Below.drew ?_ | refine below_drewN ?_ _ | refine Below.alloc ?_ (by first | (simp; done) | omega | (simp; omega)) _ | refine Below.setCell ?_ (by first | (simp; done) | omega | (simp; omega)) _ | refine Below.trans ?_ (Below.mono (by assumption) (by first | (simp; done) | omega | (simp; omega))))))⟩

set_option maxHeartbeats 1000000 in
theorem rowsCheck_nil (sp : Option Addr) (sc : Nat) (p : Int) (w : World) : Calls Tryz.prog 175 #[.slice sp 0 sc, .int .i64 p] w fun e w' => e = .returned (.bool (chkRows [] p)) ∧ Below w.heap.size w w' := by
  by_cases h0 : p < 0
  · go_enter Tryz.func175, Tryz.ntmps175
    go_wp2_with fail
    go_ret
    exact ⟨ret_bool (by simp [chkRows]; omega), (by with_reducible (repeat (first | assumption | exact Below.refl _ _ | refine Below.drew ?_ | refine below_drewN ?_ _ | refine Below.alloc ?_ (by first | (simp; done) | omega | (simp; omega)) _ | refine Below.setCell ?_ (by first | (simp; done) | omega | (simp; omega)) _ | refine Below.trans ?_ (Below.mono (by assumption) (by first | (simp; done) | omega | (simp; omega))))))⟩
  · by_cases h2 : 2 < p
    · go_enter Tryz.func175, Tryz.ntmps175
      go_wp2_with fail
      go_ret
      exact ⟨ret_bool (by simp [chkRows]; omega), (by with_reducible (repeat (first | assumption | exact Below.refl _ _ | refine Below.drew ?_ | refine below_drewN ?_ _ | refine Below.alloc ?_ (by first | (simp; done) | omega | (simp; omega)) _ | refine Below.setCell ?_ (by first | (simp; done) | omega | (simp; omega)) _ | refine Below.trans ?_ (Below.mono (by assumption) (by first | (simp; done) | omega | (simp; omega))))))⟩
    · go_enter Tryz.func175, Tryz.ntmps175
      go_wp2_with fail
      go_loopw [5, 6, 20] (fun _ _ k wr => k = .int .i64 0 ∧ Below w.heap.size w wr) (fun _ _ k _ => 0)
      case atStart => exact ⟨rfl, Below.refl _ _⟩
      case round =>
        obtain ⟨rfl, hbr⟩ := hrel
        go_wp2_with fail
        go_ret
        exact ⟨ret_bool (by simp [chkRows]; omega), hbr⟩
end Go.Proofs.YtibabfedpdoofaaGreatDoor
namespace Go.Proofs.YtibabfedpdoofaaGreatDoor
open Go.RowKit Go.Own

theorem bcell_any {B : Nat} {w w' : World} (h : Below B w w') : ∀ c : Addr, c.block < B → w'.cell? c = w.cell? c := fun c hc => h.cell (p := c) hc
theorem refLess_fun (q r : RowS) : ∀ w, Calls Tryz.prog 177 #[.agg #[.int .i64 q.o, .int .i64 q.d], .agg #[.int .i64 r.o, .int .i64 r.d]] w fun e w' => e = .returned (.bool (keyLess q.o q.d r.o r.d)) ∧ Below w.heap.size w w' :=
  fun w => refLess_any q.o q.d r.o r.d w
theorem rowOkAt_may {rs : List RowS} {p : Int} {j : Nat} (h : j < rs.length) (hf : mayRow rs[j] p = false) : rowOkAt rs p j = false := by
  simp [rowOkAt, List.getElem?_eq_getElem h, hf]
theorem rowOkAt_less {rs : List RowS} {p : Int} {j : Nat} (h : j + 1 < rs.length) (hf : keyLess rs[j].o rs[j].d rs[j + 1].o rs[j + 1].d = false) : rowOkAt rs p (j + 1) = false := by
  have h2 : j < rs.length := by omega
  simp [rowOkAt, List.getElem?_eq_getElem h, List.getElem?_eq_getElem h2, hf]
theorem rowOkAt_ok {rs : List RowS} {p : Int} {j : Nat} (h : j < rs.length) (hf : mayRow rs[j] p = true) (hl : ∀ i, j = i + 1 → ∀ (hi : i < rs.length), keyLess rs[i].o rs[i].d rs[j].o rs[j].d = true) : rowOkAt rs p j = true := by
  rcases j with _ | i
  · simp [rowOkAt, List.getElem?_eq_getElem h, hf]
  · have h2 : i < rs.length := by omega
    simp [rowOkAt, List.getElem?_eq_getElem h, List.getElem?_eq_getElem h2, hf, hl i rfl h2]

set_option maxHeartbeats 8000000 in
set_option maxRecDepth 100000 in
theorem rowsRef_some (rs : List RowS) (a : Addr) (cap : Nat) (p : Int) (w : World) (_hlen : rs.length ≤ cap) (_hcap : cap ≤ maxLen) (hR : RowsAt w a rs) :
    Calls Tryz.prog 163 #[.slice (some a) rs.length cap, .int .i64 p] w fun e w' => e = .returned (.bool (chkRows rs p)) ∧ Below w.heap.size w w' := by
  have HR := Lib.hid hR
  have hpos : 0 < w.heap.size := by have := hR.lt; omega
  have hlt := hR.lt
  clear hR
  by_cases hp : 0 ≤ p ∧ p ≤ 2 ∧ rs.length ≤ 400
  · obtain ⟨hp0, hp2, hl⟩ := hp
    have hl1 : (rs.length : Int) ≤ 400 := by omega
    go_enter Tryz.func163, Tryz.ntmps163
    go_wp2_with fail
    go_loopw [5, 6] (fun k _ wr => ∃ j : Nat, j ≤ rs.length ∧ k = .int .i64 (j : Int) ∧ Below w.heap.size w wr ∧ ∀ i, i < j → rowOkAt rs p i = true) (fun k _ _ => (rs.length - (intOf k).toNat))
    case atStart => exact ⟨0, by omega, rfl, Below.refl _ _, by omega⟩
    case round =>
      obtain ⟨j, hj, rfl, hbr, hok⟩ := hrel
      by_cases hjl : j = rs.length
      · subst hjl
        go_wp2_with fail
        go_ret
        refine ⟨ret_bool ?_, hbr⟩
        simp [chkRows, hp0, hp2, hl]
        exact fun i hi => hok i hi
      · have hj1 : j < rs.length := by omega
        have hj2 : (j : Int) < (rs.length : Int) := by omega
        have hRr := HR.out.below hbr hlt
        have c0 := hRr.c0 j hj1
        have c1 := hRr.c1 j hj1
        have c2 := hRr.c2 j hj1
        have c3 := hRr.c3 j hj1
        have c4 := hRr.c4 j hj1
        have hb0 : (a.add (j * 5)).block < wr.heap.size := hRr.lt' _
        have hzr := hbr.size
        have HM := Lib.hid (show mayRow rs[j] p = mayRow ⟨rs[j].o, rs[j].d, rs[j].code, rs[j].amt, rs[j].qty⟩ p from rfl)
        have HNO := Lib.hid (fun (h : mayRow rs[j] p = false) => chkRows_no (p := p) hj1 (rowOkAt_may hj1 h))
        have HOK := Lib.hid (fun (h : mayRow rs[j] p = true) h2 => rowOkAt_ok (p := p) hj1 h h2)
        have HL := Lib.hid (fun i (e : j = i + 1) (h : keyLess (rs[i]'(by omega)).o (rs[i]'(by omega)).d rs[j].o rs[j].d = false) => chkRows_no (p := p) hj1 (by subst e; exact rowOkAt_less hj1 h))
        have HI := Lib.hid (fun i (e : j = i + 1) => (⟨hRr.c0 i (by omega), hRr.c1 i (by omega)⟩ : _ ∧ _))
        have hK := fun w => refKeyCheck_any rs[j].o rs[j].d w
        have hP := fun w => refParty_any rs[j].d w
        have HZ := Lib.hid (fun i (hi : i < rs.length) => refLess_fun rs[i] rs[j])
        have HB := Lib.hid hRr.lt'
        clear hRr
        generalize rs[j] = r at *
        obtain ⟨o, d, code, amt, qty⟩ := r
        simp only at c0 c1 c2 c3 c4 hK hP
        cases hk : keyOk o d
        · rw [hk] at hK
          have HQ := Lib.hid (HNO.out (by rw [HM.out]; simp [mayRow, hk]))
          go_wp2_with (first | (go_at_call 161; go_must ((with_reducible refine (hK _).mono ?_); rintro e w1 ⟨rfl, hb⟩; obtain ⟨hc, hf⟩ := bcell hb; have hz := hb.size; (try simp at hz); (try have hzT := Nat.lt_of_succ_le hz); have hcA := bcell_any hb; (try (have hbA : (a.add (i * 5)).block < w1.heap.size := by omega)))) | (go_at_call 164; go_must ((with_reducible refine (hP _).mono ?_); rintro e w1 ⟨rfl, hb⟩; obtain ⟨hc, hf⟩ := bcell hb; have hz := hb.size; (try simp at hz); (try have hzT := Nat.lt_of_succ_le hz); have hcA := bcell_any hb; (try (have hbA : (a.add (i * 5)).block < w1.heap.size := by omega)))))
          go_ret
          exact ⟨by rw [HQ.out]; rfl, (by with_reducible (repeat (first | assumption | exact Below.refl _ _ | refine Below.drew ?_ | refine below_drewN ?_ _ | refine Below.alloc ?_ (by first | (simp; done) | omega | (simp; omega)) _ | refine Below.setCell ?_ (by first | (simp; done) | omega | (simp; omega)) _ | refine Below.trans ?_ (Below.mono (by assumption) (by first | (simp; done) | omega | (simp; omega))))))⟩
        · rw [hk] at hK
          by_cases hq : partyOf d = p
          rotate_left
          · have HQ := Lib.hid (HNO.out (by rw [HM.out]; simp [mayRow, hq]))
            generalize partyOf d = q at *
            have hqb : (q == p) = false := by simpa using hq
            have hqn : (q != p) = true := by simpa using hq
            clear hq
            go_wp2_with (first | (go_at_call 161; go_must ((with_reducible refine (hK _).mono ?_); rintro e w1 ⟨rfl, hb⟩; obtain ⟨hc, hf⟩ := bcell hb; have hz := hb.size; (try simp at hz); (try have hzT := Nat.lt_of_succ_le hz); have hcA := bcell_any hb; (try (have hbA : (a.add (i * 5)).block < w1.heap.size := by omega)))) | (go_at_call 164; go_must ((with_reducible refine (hP _).mono ?_); rintro e w1 ⟨rfl, hb⟩; obtain ⟨hc, hf⟩ := bcell hb; have hz := hb.size; (try simp at hz); (try have hzT := Nat.lt_of_succ_le hz); have hcA := bcell_any hb; (try (have hbA : (a.add (i * 5)).block < w1.heap.size := by omega)))))
            go_ret
            exact ⟨by rw [HQ.out]; rfl, (by with_reducible (repeat (first | assumption | exact Below.refl _ _ | refine Below.drew ?_ | refine below_drewN ?_ _ | refine Below.alloc ?_ (by first | (simp; done) | omega | (simp; omega)) _ | refine Below.setCell ?_ (by first | (simp; done) | omega | (simp; omega)) _ | refine Below.trans ?_ (Below.mono (by assumption) (by first | (simp; done) | omega | (simp; omega))))))⟩
          rw [hq] at hP
          by_cases hc : code = 1 ∨ code = 2
          rotate_left
          · have HQ := Lib.hid (HNO.out (by rw [HM.out]; simp [mayRow]; omega))
            by_cases hc1 : code < 1
            · go_wp2_with (first | (go_at_call 161; go_must ((with_reducible refine (hK _).mono ?_); rintro e w1 ⟨rfl, hb⟩; obtain ⟨hc, hf⟩ := bcell hb; have hz := hb.size; (try simp at hz); (try have hzT := Nat.lt_of_succ_le hz); have hcA := bcell_any hb; (try (have hbA : (a.add (i * 5)).block < w1.heap.size := by omega)))) | (go_at_call 164; go_must ((with_reducible refine (hP _).mono ?_); rintro e w1 ⟨rfl, hb⟩; obtain ⟨hc, hf⟩ := bcell hb; have hz := hb.size; (try simp at hz); (try have hzT := Nat.lt_of_succ_le hz); have hcA := bcell_any hb; (try (have hbA : (a.add (i * 5)).block < w1.heap.size := by omega)))))
              go_ret
              exact ⟨by rw [HQ.out]; rfl, (by with_reducible (repeat (first | assumption | exact Below.refl _ _ | refine Below.drew ?_ | refine below_drewN ?_ _ | refine Below.alloc ?_ (by first | (simp; done) | omega | (simp; omega)) _ | refine Below.setCell ?_ (by first | (simp; done) | omega | (simp; omega)) _ | refine Below.trans ?_ (Below.mono (by assumption) (by first | (simp; done) | omega | (simp; omega))))))⟩
              
            · have hc2 : 2 < code := by omega
              go_wp2_with (first | (go_at_call 161; go_must ((with_reducible refine (hK _).mono ?_); rintro e w1 ⟨rfl, hb⟩; obtain ⟨hc, hf⟩ := bcell hb; have hz := hb.size; (try simp at hz); (try have hzT := Nat.lt_of_succ_le hz); have hcA := bcell_any hb; (try (have hbA : (a.add (i * 5)).block < w1.heap.size := by omega)))) | (go_at_call 164; go_must ((with_reducible refine (hP _).mono ?_); rintro e w1 ⟨rfl, hb⟩; obtain ⟨hc, hf⟩ := bcell hb; have hz := hb.size; (try simp at hz); (try have hzT := Nat.lt_of_succ_le hz); have hcA := bcell_any hb; (try (have hbA : (a.add (i * 5)).block < w1.heap.size := by omega)))))
              go_ret
              exact ⟨by rw [HQ.out]; rfl, (by with_reducible (repeat (first | assumption | exact Below.refl _ _ | refine Below.drew ?_ | refine below_drewN ?_ _ | refine Below.alloc ?_ (by first | (simp; done) | omega | (simp; omega)) _ | refine Below.setCell ?_ (by first | (simp; done) | omega | (simp; omega)) _ | refine Below.trans ?_ (Below.mono (by assumption) (by first | (simp; done) | omega | (simp; omega))))))⟩
              
          have hc1 : ¬ code < 1 := by omega
          have hc2 : ¬ 2 < code := by omega
          by_cases hlf : ∃ i, ∃ e : j = i + 1, keyLess (rs[i]'(by omega)).o (rs[i]'(by omega)).d o d = false
          · obtain ⟨i, e, hf⟩ := hlf
            have HQ := Lib.hid (HL.out i e hf)
            obtain ⟨d0, d1⟩ := HI.out i e
            have hb1 := HB.out (i * 5)
            have hb2 : (a.add (i * 5)).block < wr.heap.size + 1 := by omega
            have hb3 : (a.add (i * 5)).block ≤ wr.heap.size := by omega
            have hb4 : (a.add (i * 5)).block ≠ wr.heap.size := by omega
            have hK2 := HZ.out i (by omega)
            subst e
            simp only at hK2
            rw [hf] at hK2
            have hj3 : (((i + 1 : Nat)) : Int) - 1 = (i : Int) := by omega
            have hi3 : (i : Int) < (rs.length : Int) := by omega
            have hi4 : (0 : Int) < ((i + 1 : Nat) : Int) := by omega
            go_wp2_with (first | (go_at_call 161; go_must ((with_reducible refine (hK _).mono ?_); rintro e w1 ⟨rfl, hb⟩; obtain ⟨hc, hf⟩ := bcell hb; have hz := hb.size; (try simp at hz); (try have hzT := Nat.lt_of_succ_le hz); have hcA := bcell_any hb; (try (have hbA : (a.add (i * 5)).block < w1.heap.size := by omega)))) | (go_at_call 164; go_must ((with_reducible refine (hP _).mono ?_); rintro e w1 ⟨rfl, hb⟩; obtain ⟨hc, hf⟩ := bcell hb; have hz := hb.size; (try simp at hz); (try have hzT := Nat.lt_of_succ_le hz); have hcA := bcell_any hb; (try (have hbA : (a.add (i * 5)).block < w1.heap.size := by omega)))))
            have hz0 := hb.size
            have hzp : wr.heap.size < w1.heap.size := (by first | omega | (simp at hz0; omega))
            refine region_later (by kernel_rfl) (by kernel_rfl) ?_
            repeat (first | go_big_quiet_step ((go_at_call 177; (with_reducible exact calls_later (by first | exact Nat.le_refl _ | (simp; done)) (hK2 _)))) | quiet_step ((go_at_call 177; (with_reducible exact calls_later (by first | exact Nat.le_refl _ | (simp; done)) (hK2 _)))))
            refine wpQuiet_nil ?_
            intro w1 hb
            obtain ⟨hc, hf⟩ := bcell hb
            have hcA := bcell_any hb
            have hz2 := hb.size
            have hzq : wr.heap.size < w1.heap.size := (by first | omega | (simp at hz2; omega))
            go_wp2_with fail
            go_ret
            exact ⟨by rw [HQ.out]; rfl, (by with_reducible (repeat (first | assumption | exact Below.refl _ _ | refine Below.drew ?_ | refine below_drewN ?_ _ | refine Below.alloc ?_ (by first | (simp; done) | omega | (simp; omega)) _ | refine Below.setCell ?_ (by first | (simp; done) | omega | (simp; omega)) _ | refine Below.trans ?_ (Below.mono (by assumption) (by first | (simp; done) | omega | (simp; omega))))))⟩
          by_cases h2 : code = 2
          · have HX := Lib.hid (HM.out.trans (show _ = (decide (amt = 0) && decide (qty = 0)) by simp [mayRow, hk, hq, h2]))
            have h2b : (code == 2) = true := by simpa using h2
            by_cases hj0 : j = 0
            · have hji : ¬ 0 < j := by omega
              have HLT := Lib.hid (show ∀ i, j = i + 1 → ∀ (hi : i < rs.length), keyLess rs[i].o rs[i].d o d = true from fun i e => by omega)
              clear hj0
              have HK2 := Lib.hid (show mayRow ⟨o, d, code, amt, qty⟩ p = true → ∀ k, k < j + 1 → rowOkAt rs p k = true from fun h k hk2 => by
                rcases Nat.lt_or_ge k j with h3 | h3
                · exact hok k h3
                · obtain rfl : k = j := by omega
                  exact HOK.out h HLT.out)
              go_wp2_with (first | (go_at_call 161; go_must ((with_reducible refine (hK _).mono ?_); rintro e w1 ⟨rfl, hb⟩; obtain ⟨hc, hf⟩ := bcell hb; have hz := hb.size; (try simp at hz); (try have hzT := Nat.lt_of_succ_le hz); have hcA := bcell_any hb; (try (have hbA : (a.add (i * 5)).block < w1.heap.size := by omega)))) | (go_at_call 164; go_must ((with_reducible refine (hP _).mono ?_); rintro e w1 ⟨rfl, hb⟩; obtain ⟨hc, hf⟩ := bcell hb; have hz := hb.size; (try simp at hz); (try have hzT := Nat.lt_of_succ_le hz); have hcA := bcell_any hb; (try (have hbA : (a.add (i * 5)).block < w1.heap.size := by omega)))))
              have hz0 := hb.size
              have hzp : wr.heap.size < w1.heap.size := (by first | omega | (simp at hz0; omega))
              refine region_later (by kernel_rfl) (by kernel_rfl) ?_
              repeat (first | go_big_quiet_step (fail) | quiet_step (fail))
              refine wpQuiet_nil ?_
              intro w1 hb
              obtain ⟨hc, hf⟩ := bcell hb
              have hz2 := hb.size
              have hzq : wr.heap.size < w1.heap.size := (by first | omega | (simp at hz2; omega))
              go_wp2_with fail
              all_goals first
                | (go_ret; refine ⟨ret_bool (Eq.symm (HNO.out ?_)), (by with_reducible (repeat (first | assumption | exact Below.refl _ _ | refine Below.drew ?_ | refine below_drewN ?_ _ | refine Below.alloc ?_ (by first | (simp; done) | omega | (simp; omega)) _ | refine Below.setCell ?_ (by first | (simp; done) | omega | (simp; omega)) _ | refine Below.trans ?_ (Below.mono (by assumption) (by first | (simp; done) | omega | (simp; omega))))))⟩; rw [HX.out]; simp <;> omega)
                | (refine ⟨⟨j + 1, by omega, by go_num, (by with_reducible (repeat (first | assumption | exact Below.refl _ _ | refine Below.drew ?_ | refine below_drewN ?_ _ | refine Below.alloc ?_ (by first | (simp; done) | omega | (simp; omega)) _ | refine Below.setCell ?_ (by first | (simp; done) | omega | (simp; omega)) _ | refine Below.trans ?_ (Below.mono (by assumption) (by first | (simp; done) | omega | (simp; omega)))))), HK2.out ?_⟩, ?_⟩
                   · (rw [HX.out]; simp <;> omega)
                   · (simp [intOf] <;> omega))
            · obtain ⟨i, e⟩ : ∃ i, j = i + 1 := ⟨j - 1, by omega⟩
              have HLT := Lib.hid (show ∀ i, j = i + 1 → ∀ (hi : i < rs.length), keyLess rs[i].o rs[i].d o d = true from fun i e hi => by
                have := fun h => hlf ⟨i, e, h⟩
                simpa using this)
              have hf := HLT.out i e (by omega)
              obtain ⟨d0, d1⟩ := HI.out i e
              have hb1 := HB.out (i * 5)
              have hb2 : (a.add (i * 5)).block < wr.heap.size + 1 := by omega
              have hb3 : (a.add (i * 5)).block ≤ wr.heap.size := by omega
              have hb4 : (a.add (i * 5)).block ≠ wr.heap.size := by omega
              have hK2 := HZ.out i (by omega)
              subst e
              simp only at hK2
              rw [hf] at hK2
              have hj3 : (((i + 1 : Nat)) : Int) - 1 = (i : Int) := by omega
              have hi3 : (i : Int) < (rs.length : Int) := by omega
              have hi4 : (0 : Int) < ((i + 1 : Nat) : Int) := by omega
              have HK2 := Lib.hid (show mayRow ⟨o, d, code, amt, qty⟩ p = true → ∀ k, k < i + 2 → rowOkAt rs p k = true from fun h k hk2 => by
                rcases Nat.lt_or_ge k (i + 1) with h3 | h3
                · exact hok k h3
                · obtain rfl : k = i + 1 := by omega
                  exact HOK.out h HLT.out)
              go_wp2_with (first | (go_at_call 161; go_must ((with_reducible refine (hK _).mono ?_); rintro e w1 ⟨rfl, hb⟩; obtain ⟨hc, hf⟩ := bcell hb; have hz := hb.size; (try simp at hz); (try have hzT := Nat.lt_of_succ_le hz); have hcA := bcell_any hb; (try (have hbA : (a.add (i * 5)).block < w1.heap.size := by omega)))) | (go_at_call 164; go_must ((with_reducible refine (hP _).mono ?_); rintro e w1 ⟨rfl, hb⟩; obtain ⟨hc, hf⟩ := bcell hb; have hz := hb.size; (try simp at hz); (try have hzT := Nat.lt_of_succ_le hz); have hcA := bcell_any hb; (try (have hbA : (a.add (i * 5)).block < w1.heap.size := by omega)))))
              have hz0 := hb.size
              have hzp : wr.heap.size < w1.heap.size := (by first | omega | (simp at hz0; omega))
              refine region_later (by kernel_rfl) (by kernel_rfl) ?_
              repeat (first | go_big_quiet_step ((go_at_call 177; (with_reducible exact calls_later (by first | exact Nat.le_refl _ | (simp; done)) (hK2 _)))) | quiet_step ((go_at_call 177; (with_reducible exact calls_later (by first | exact Nat.le_refl _ | (simp; done)) (hK2 _)))))
              refine wpQuiet_nil ?_
              intro w1 hb
              obtain ⟨hc, hf⟩ := bcell hb
              have hcA := bcell_any hb
              have hz2 := hb.size
              have hzq : wr.heap.size < w1.heap.size := (by first | omega | (simp at hz2; omega))
              go_wp2_with fail
              all_goals first
                | (go_ret; refine ⟨ret_bool (Eq.symm (HNO.out ?_)), (by with_reducible (repeat (first | assumption | exact Below.refl _ _ | refine Below.drew ?_ | refine below_drewN ?_ _ | refine Below.alloc ?_ (by first | (simp; done) | omega | (simp; omega)) _ | refine Below.setCell ?_ (by first | (simp; done) | omega | (simp; omega)) _ | refine Below.trans ?_ (Below.mono (by assumption) (by first | (simp; done) | omega | (simp; omega))))))⟩; rw [HX.out]; simp <;> omega)
                | (refine ⟨⟨i + 2, by omega, by go_num, (by with_reducible (repeat (first | assumption | exact Below.refl _ _ | refine Below.drew ?_ | refine below_drewN ?_ _ | refine Below.alloc ?_ (by first | (simp; done) | omega | (simp; omega)) _ | refine Below.setCell ?_ (by first | (simp; done) | omega | (simp; omega)) _ | refine Below.trans ?_ (Below.mono (by assumption) (by first | (simp; done) | omega | (simp; omega)))))), HK2.out ?_⟩, ?_⟩
                   · (rw [HX.out]; simp <;> omega)
                   · (simp [intOf] <;> omega))
          · have h1 : code = 1 := by omega
            have h2b : (code == 2) = false := by simpa using h2
            by_cases hp00 : p = 0
            · have HX := Lib.hid (HM.out.trans (show _ = (decide (qty = 0) && decide (0 ≤ amt) && decide (amt ≤ 1099511627776)) by simp [mayRow, hk, hq, h1, hp00]))
              have hpb : (p == 0) = true := by simpa using hp00
              have hpn : (p != 0) = false := by simpa using hp00
              clear hp00
              by_cases hj0 : j = 0
              · have hji : ¬ 0 < j := by omega
                have HLT := Lib.hid (show ∀ i, j = i + 1 → ∀ (hi : i < rs.length), keyLess rs[i].o rs[i].d o d = true from fun i e => by omega)
                clear hj0
                have HK2 := Lib.hid (show mayRow ⟨o, d, code, amt, qty⟩ p = true → ∀ k, k < j + 1 → rowOkAt rs p k = true from fun h k hk2 => by
                  rcases Nat.lt_or_ge k j with h3 | h3
                  · exact hok k h3
                  · obtain rfl : k = j := by omega
                    exact HOK.out h HLT.out)
                go_wp2_with (first | (go_at_call 161; go_must ((with_reducible refine (hK _).mono ?_); rintro e w1 ⟨rfl, hb⟩; obtain ⟨hc, hf⟩ := bcell hb; have hz := hb.size; (try simp at hz); (try have hzT := Nat.lt_of_succ_le hz); have hcA := bcell_any hb; (try (have hbA : (a.add (i * 5)).block < w1.heap.size := by omega)))) | (go_at_call 164; go_must ((with_reducible refine (hP _).mono ?_); rintro e w1 ⟨rfl, hb⟩; obtain ⟨hc, hf⟩ := bcell hb; have hz := hb.size; (try simp at hz); (try have hzT := Nat.lt_of_succ_le hz); have hcA := bcell_any hb; (try (have hbA : (a.add (i * 5)).block < w1.heap.size := by omega)))))
                have hz0 := hb.size
                have hzp : wr.heap.size < w1.heap.size := (by first | omega | (simp at hz0; omega))
                refine region_later (by kernel_rfl) (by kernel_rfl) ?_
                repeat (first | go_big_quiet_step (fail) | quiet_step (fail))
                refine wpQuiet_nil ?_
                intro w1 hb
                obtain ⟨hc, hf⟩ := bcell hb
                have hz2 := hb.size
                have hzq : wr.heap.size < w1.heap.size := (by first | omega | (simp at hz2; omega))
                go_wp2_with fail
                all_goals first
                  | (go_ret; refine ⟨ret_bool (Eq.symm (HNO.out ?_)), (by with_reducible (repeat (first | assumption | exact Below.refl _ _ | refine Below.drew ?_ | refine below_drewN ?_ _ | refine Below.alloc ?_ (by first | (simp; done) | omega | (simp; omega)) _ | refine Below.setCell ?_ (by first | (simp; done) | omega | (simp; omega)) _ | refine Below.trans ?_ (Below.mono (by assumption) (by first | (simp; done) | omega | (simp; omega))))))⟩; rw [HX.out]; simp <;> omega)
                  | (refine ⟨⟨j + 1, by omega, by go_num, (by with_reducible (repeat (first | assumption | exact Below.refl _ _ | refine Below.drew ?_ | refine below_drewN ?_ _ | refine Below.alloc ?_ (by first | (simp; done) | omega | (simp; omega)) _ | refine Below.setCell ?_ (by first | (simp; done) | omega | (simp; omega)) _ | refine Below.trans ?_ (Below.mono (by assumption) (by first | (simp; done) | omega | (simp; omega)))))), HK2.out ?_⟩, ?_⟩
                     · (rw [HX.out]; simp <;> omega)
                     · (simp [intOf] <;> omega))
              · obtain ⟨i, e⟩ : ∃ i, j = i + 1 := ⟨j - 1, by omega⟩
                have HLT := Lib.hid (show ∀ i, j = i + 1 → ∀ (hi : i < rs.length), keyLess rs[i].o rs[i].d o d = true from fun i e hi => by
                  have := fun h => hlf ⟨i, e, h⟩
                  simpa using this)
                have hf := HLT.out i e (by omega)
                obtain ⟨d0, d1⟩ := HI.out i e
                have hb1 := HB.out (i * 5)
                have hb2 : (a.add (i * 5)).block < wr.heap.size + 1 := by omega
                have hb3 : (a.add (i * 5)).block ≤ wr.heap.size := by omega
                have hb4 : (a.add (i * 5)).block ≠ wr.heap.size := by omega
                have hK2 := HZ.out i (by omega)
                subst e
                simp only at hK2
                rw [hf] at hK2
                have hj3 : (((i + 1 : Nat)) : Int) - 1 = (i : Int) := by omega
                have hi3 : (i : Int) < (rs.length : Int) := by omega
                have hi4 : (0 : Int) < ((i + 1 : Nat) : Int) := by omega
                have HK2 := Lib.hid (show mayRow ⟨o, d, code, amt, qty⟩ p = true → ∀ k, k < i + 2 → rowOkAt rs p k = true from fun h k hk2 => by
                  rcases Nat.lt_or_ge k (i + 1) with h3 | h3
                  · exact hok k h3
                  · obtain rfl : k = i + 1 := by omega
                    exact HOK.out h HLT.out)
                go_wp2_with (first | (go_at_call 161; go_must ((with_reducible refine (hK _).mono ?_); rintro e w1 ⟨rfl, hb⟩; obtain ⟨hc, hf⟩ := bcell hb; have hz := hb.size; (try simp at hz); (try have hzT := Nat.lt_of_succ_le hz); have hcA := bcell_any hb; (try (have hbA : (a.add (i * 5)).block < w1.heap.size := by omega)))) | (go_at_call 164; go_must ((with_reducible refine (hP _).mono ?_); rintro e w1 ⟨rfl, hb⟩; obtain ⟨hc, hf⟩ := bcell hb; have hz := hb.size; (try simp at hz); (try have hzT := Nat.lt_of_succ_le hz); have hcA := bcell_any hb; (try (have hbA : (a.add (i * 5)).block < w1.heap.size := by omega)))))
                have hz0 := hb.size
                have hzp : wr.heap.size < w1.heap.size := (by first | omega | (simp at hz0; omega))
                refine region_later (by kernel_rfl) (by kernel_rfl) ?_
                repeat (first | go_big_quiet_step ((go_at_call 177; (with_reducible exact calls_later (by first | exact Nat.le_refl _ | (simp; done)) (hK2 _)))) | quiet_step ((go_at_call 177; (with_reducible exact calls_later (by first | exact Nat.le_refl _ | (simp; done)) (hK2 _)))))
                refine wpQuiet_nil ?_
                intro w1 hb
                obtain ⟨hc, hf⟩ := bcell hb
                have hcA := bcell_any hb
                have hz2 := hb.size
                have hzq : wr.heap.size < w1.heap.size := (by first | omega | (simp at hz2; omega))
                go_wp2_with fail
                all_goals first
                  | (go_ret; refine ⟨ret_bool (Eq.symm (HNO.out ?_)), (by with_reducible (repeat (first | assumption | exact Below.refl _ _ | refine Below.drew ?_ | refine below_drewN ?_ _ | refine Below.alloc ?_ (by first | (simp; done) | omega | (simp; omega)) _ | refine Below.setCell ?_ (by first | (simp; done) | omega | (simp; omega)) _ | refine Below.trans ?_ (Below.mono (by assumption) (by first | (simp; done) | omega | (simp; omega))))))⟩; rw [HX.out]; simp <;> omega)
                  | (refine ⟨⟨i + 2, by omega, by go_num, (by with_reducible (repeat (first | assumption | exact Below.refl _ _ | refine Below.drew ?_ | refine below_drewN ?_ _ | refine Below.alloc ?_ (by first | (simp; done) | omega | (simp; omega)) _ | refine Below.setCell ?_ (by first | (simp; done) | omega | (simp; omega)) _ | refine Below.trans ?_ (Below.mono (by assumption) (by first | (simp; done) | omega | (simp; omega)))))), HK2.out ?_⟩, ?_⟩
                     · (rw [HX.out]; simp <;> omega)
                     · (simp [intOf] <;> omega))
            · have HX := Lib.hid (HM.out.trans (show _ = (decide (amt = 0) && decide (0 ≤ qty) && decide (qty ≤ 999)) by simp [mayRow, hk, hq, h1, hp00]))
              have hpb : (p == 0) = false := by simpa using hp00
              have hpn : (p != 0) = true := by simpa using hp00
              by_cases hj0 : j = 0
              · have hji : ¬ 0 < j := by omega
                have HLT := Lib.hid (show ∀ i, j = i + 1 → ∀ (hi : i < rs.length), keyLess rs[i].o rs[i].d o d = true from fun i e => by omega)
                clear hj0
                have HK2 := Lib.hid (show mayRow ⟨o, d, code, amt, qty⟩ p = true → ∀ k, k < j + 1 → rowOkAt rs p k = true from fun h k hk2 => by
                  rcases Nat.lt_or_ge k j with h3 | h3
                  · exact hok k h3
                  · obtain rfl : k = j := by omega
                    exact HOK.out h HLT.out)
                go_wp2_with (first | (go_at_call 161; go_must ((with_reducible refine (hK _).mono ?_); rintro e w1 ⟨rfl, hb⟩; obtain ⟨hc, hf⟩ := bcell hb; have hz := hb.size; (try simp at hz); (try have hzT := Nat.lt_of_succ_le hz); have hcA := bcell_any hb; (try (have hbA : (a.add (i * 5)).block < w1.heap.size := by omega)))) | (go_at_call 164; go_must ((with_reducible refine (hP _).mono ?_); rintro e w1 ⟨rfl, hb⟩; obtain ⟨hc, hf⟩ := bcell hb; have hz := hb.size; (try simp at hz); (try have hzT := Nat.lt_of_succ_le hz); have hcA := bcell_any hb; (try (have hbA : (a.add (i * 5)).block < w1.heap.size := by omega)))))
                have hz0 := hb.size
                have hzp : wr.heap.size < w1.heap.size := (by first | omega | (simp at hz0; omega))
                refine region_later (by kernel_rfl) (by kernel_rfl) ?_
                repeat (first | go_big_quiet_step (fail) | quiet_step (fail))
                refine wpQuiet_nil ?_
                intro w1 hb
                obtain ⟨hc, hf⟩ := bcell hb
                have hz2 := hb.size
                have hzq : wr.heap.size < w1.heap.size := (by first | omega | (simp at hz2; omega))
                go_wp2_with fail
                all_goals first
                  | (go_ret; refine ⟨ret_bool (Eq.symm (HNO.out ?_)), (by with_reducible (repeat (first | assumption | exact Below.refl _ _ | refine Below.drew ?_ | refine below_drewN ?_ _ | refine Below.alloc ?_ (by first | (simp; done) | omega | (simp; omega)) _ | refine Below.setCell ?_ (by first | (simp; done) | omega | (simp; omega)) _ | refine Below.trans ?_ (Below.mono (by assumption) (by first | (simp; done) | omega | (simp; omega))))))⟩; rw [HX.out]; simp <;> omega)
                  | (refine ⟨⟨j + 1, by omega, by go_num, (by with_reducible (repeat (first | assumption | exact Below.refl _ _ | refine Below.drew ?_ | refine below_drewN ?_ _ | refine Below.alloc ?_ (by first | (simp; done) | omega | (simp; omega)) _ | refine Below.setCell ?_ (by first | (simp; done) | omega | (simp; omega)) _ | refine Below.trans ?_ (Below.mono (by assumption) (by first | (simp; done) | omega | (simp; omega)))))), HK2.out ?_⟩, ?_⟩
                     · (rw [HX.out]; simp <;> omega)
                     · (simp [intOf] <;> omega))
              · obtain ⟨i, e⟩ : ∃ i, j = i + 1 := ⟨j - 1, by omega⟩
                have HLT := Lib.hid (show ∀ i, j = i + 1 → ∀ (hi : i < rs.length), keyLess rs[i].o rs[i].d o d = true from fun i e hi => by
                  have := fun h => hlf ⟨i, e, h⟩
                  simpa using this)
                have hf := HLT.out i e (by omega)
                obtain ⟨d0, d1⟩ := HI.out i e
                have hb1 := HB.out (i * 5)
                have hb2 : (a.add (i * 5)).block < wr.heap.size + 1 := by omega
                have hb3 : (a.add (i * 5)).block ≤ wr.heap.size := by omega
                have hb4 : (a.add (i * 5)).block ≠ wr.heap.size := by omega
                have hK2 := HZ.out i (by omega)
                subst e
                simp only at hK2
                rw [hf] at hK2
                have hj3 : (((i + 1 : Nat)) : Int) - 1 = (i : Int) := by omega
                have hi3 : (i : Int) < (rs.length : Int) := by omega
                have hi4 : (0 : Int) < ((i + 1 : Nat) : Int) := by omega
                have HK2 := Lib.hid (show mayRow ⟨o, d, code, amt, qty⟩ p = true → ∀ k, k < i + 2 → rowOkAt rs p k = true from fun h k hk2 => by
                  rcases Nat.lt_or_ge k (i + 1) with h3 | h3
                  · exact hok k h3
                  · obtain rfl : k = i + 1 := by omega
                    exact HOK.out h HLT.out)
                go_wp2_with (first | (go_at_call 161; go_must ((with_reducible refine (hK _).mono ?_); rintro e w1 ⟨rfl, hb⟩; obtain ⟨hc, hf⟩ := bcell hb; have hz := hb.size; (try simp at hz); (try have hzT := Nat.lt_of_succ_le hz); have hcA := bcell_any hb; (try (have hbA : (a.add (i * 5)).block < w1.heap.size := by omega)))) | (go_at_call 164; go_must ((with_reducible refine (hP _).mono ?_); rintro e w1 ⟨rfl, hb⟩; obtain ⟨hc, hf⟩ := bcell hb; have hz := hb.size; (try simp at hz); (try have hzT := Nat.lt_of_succ_le hz); have hcA := bcell_any hb; (try (have hbA : (a.add (i * 5)).block < w1.heap.size := by omega)))))
                have hz0 := hb.size
                have hzp : wr.heap.size < w1.heap.size := (by first | omega | (simp at hz0; omega))
                refine region_later (by kernel_rfl) (by kernel_rfl) ?_
                repeat (first | go_big_quiet_step ((go_at_call 177; (with_reducible exact calls_later (by first | exact Nat.le_refl _ | (simp; done)) (hK2 _)))) | quiet_step ((go_at_call 177; (with_reducible exact calls_later (by first | exact Nat.le_refl _ | (simp; done)) (hK2 _)))))
                refine wpQuiet_nil ?_
                intro w1 hb
                obtain ⟨hc, hf⟩ := bcell hb
                have hcA := bcell_any hb
                have hz2 := hb.size
                have hzq : wr.heap.size < w1.heap.size := (by first | omega | (simp at hz2; omega))
                go_wp2_with fail
                all_goals first
                  | (go_ret; refine ⟨ret_bool (Eq.symm (HNO.out ?_)), (by with_reducible (repeat (first | assumption | exact Below.refl _ _ | refine Below.drew ?_ | refine below_drewN ?_ _ | refine Below.alloc ?_ (by first | (simp; done) | omega | (simp; omega)) _ | refine Below.setCell ?_ (by first | (simp; done) | omega | (simp; omega)) _ | refine Below.trans ?_ (Below.mono (by assumption) (by first | (simp; done) | omega | (simp; omega))))))⟩; rw [HX.out]; simp <;> omega)
                  | (refine ⟨⟨i + 2, by omega, by go_num, (by with_reducible (repeat (first | assumption | exact Below.refl _ _ | refine Below.drew ?_ | refine below_drewN ?_ _ | refine Below.alloc ?_ (by first | (simp; done) | omega | (simp; omega)) _ | refine Below.setCell ?_ (by first | (simp; done) | omega | (simp; omega)) _ | refine Below.trans ?_ (Below.mono (by assumption) (by first | (simp; done) | omega | (simp; omega)))))), HK2.out ?_⟩, ?_⟩
                     · (rw [HX.out]; simp <;> omega)
                     · (simp [intOf] <;> omega))
  · have hQ : chkRows rs p = false := by simp only [chkRows]; simp; omega
    have HQ := Lib.hid hQ
    clear hQ
    by_cases h0 : p < 0
    · go_enter Tryz.func163, Tryz.ntmps163
      go_wp2_with fail
      go_ret
      exact ⟨by rw [HQ.out]; rfl, (by with_reducible (repeat (first | assumption | exact Below.refl _ _ | refine Below.drew ?_ | refine below_drewN ?_ _ | refine Below.alloc ?_ (by first | (simp; done) | omega | (simp; omega)) _ | refine Below.setCell ?_ (by first | (simp; done) | omega | (simp; omega)) _ | refine Below.trans ?_ (Below.mono (by assumption) (by first | (simp; done) | omega | (simp; omega))))))⟩
    · by_cases h2 : 2 < p
      · go_enter Tryz.func163, Tryz.ntmps163
        go_wp2_with fail
        go_ret
        exact ⟨by rw [HQ.out]; rfl, (by with_reducible (repeat (first | assumption | exact Below.refl _ _ | refine Below.drew ?_ | refine below_drewN ?_ _ | refine Below.alloc ?_ (by first | (simp; done) | omega | (simp; omega)) _ | refine Below.setCell ?_ (by first | (simp; done) | omega | (simp; omega)) _ | refine Below.trans ?_ (Below.mono (by assumption) (by first | (simp; done) | omega | (simp; omega))))))⟩
      · have h4 : (400 : Int) < (rs.length : Int) := by omega
        go_enter Tryz.func163, Tryz.ntmps163
        go_wp2_with fail
        go_ret
        exact ⟨by rw [HQ.out]; rfl, (by with_reducible (repeat (first | assumption | exact Below.refl _ _ | refine Below.drew ?_ | refine below_drewN ?_ _ | refine Below.alloc ?_ (by first | (simp; done) | omega | (simp; omega)) _ | refine Below.setCell ?_ (by first | (simp; done) | omega | (simp; omega)) _ | refine Below.trans ?_ (Below.mono (by assumption) (by first | (simp; done) | omega | (simp; omega))))))⟩
end Go.Proofs.YtibabfedpdoofaaGreatDoor
namespace Go.Proofs.YtibabfedpdoofaaGreatDoor
open Go.RowKit Go.Own

/-- A slice of rows: none, or some that lie in memory. -/
inductive IsRows (w : World) : Value → List RowS → Prop
  | none (sp : Option Addr) (sc : Nat) (hn : sp = Option.none → sc = 0) : IsRows w (.slice sp 0 sc) []
  | some (a : Addr) (cap : Nat) (rs : List RowS) (hlen : rs.length ≤ cap) (hcap : cap ≤ maxLen) (h0 : 0 < rs.length) (h : RowsAt w a rs) : IsRows w (.slice (some a) rs.length cap) rs
def VRows (v : Value) (B : Nat) : Prop := ∀ a n c, v = .slice (some a) n c → 0 < n → a.block < B
theorem IsRows.lt {w : World} {v : Value} {rs : List RowS} (h : IsRows w v rs) : VRows v w.heap.size := by
  intro a n c e hn
  cases h with
  | none sp sc hn => cases e; omega
  | some a' cap rs hlen hcap h0 h => cases e; exact h.lt
theorem IsRows.below {B : Nat} {w w' : World} {v : Value} {rs : List RowS} (h : IsRows w v rs) (hb : Below B w w') (hB : VRows v B) : IsRows w' v rs := by
  cases h with
  | none sp sc hn => exact .none sp sc hn
  | some a cap rs hlen hcap h0 h => exact .some a cap rs hlen hcap h0 (h.below hb (hB a _ _ rfl h0))
theorem IsRows.slice {w : World} {v : Value} {rs : List RowS} (h : IsRows w v rs) : ∃ p c, v = .slice p rs.length c ∧ rs.length ≤ maxLen := by
  cases h with
  | none sp sc hn => exact ⟨_, _, rfl, by simp⟩
  | some a cap rs hlen hcap h0 h => exact ⟨_, _, rfl, by omega⟩
theorem rowsCheck_any {w : World} {v : Value} {rs : List RowS} (p : Int) (h : IsRows w v rs) (hL : Laid w) :
    Calls Tryz.prog 175 #[v, .int .i64 p] w fun e w' => e = .returned (.bool (chkRows rs p)) ∧ Below w.heap.size w w' := by
  cases h with
  | none sp sc hn => exact rowsCheck_nil sp sc p w
  | some a cap rs hlen hcap h0 h => exact rowsCheck_some rs a cap p w hlen hcap h hL
set_option maxHeartbeats 1000000 in
theorem rowsRef_nil (sp : Option Addr) (sc : Nat) (p : Int) (w : World) : Calls Tryz.prog 163 #[.slice sp 0 sc, .int .i64 p] w fun e w' => e = .returned (.bool (chkRows [] p)) ∧ Below w.heap.size w w' := by
  by_cases h0 : p < 0
  · go_enter Tryz.func163, Tryz.ntmps163
    go_wp2_with fail
    go_ret
    exact ⟨ret_bool (by simp [chkRows]; omega), (by with_reducible (repeat (first | assumption | exact Below.refl _ _ | refine Below.drew ?_ | refine below_drewN ?_ _ | refine Below.alloc ?_ (by first | (simp; done) | omega | (simp; omega)) _ | refine Below.setCell ?_ (by first | (simp; done) | omega | (simp; omega)) _ | refine Below.trans ?_ (Below.mono (by assumption) (by first | (simp; done) | omega | (simp; omega))))))⟩
  · by_cases h2 : 2 < p
    · go_enter Tryz.func163, Tryz.ntmps163
      go_wp2_with fail
      go_ret
      exact ⟨ret_bool (by simp [chkRows]; omega), (by with_reducible (repeat (first | assumption | exact Below.refl _ _ | refine Below.drew ?_ | refine below_drewN ?_ _ | refine Below.alloc ?_ (by first | (simp; done) | omega | (simp; omega)) _ | refine Below.setCell ?_ (by first | (simp; done) | omega | (simp; omega)) _ | refine Below.trans ?_ (Below.mono (by assumption) (by first | (simp; done) | omega | (simp; omega))))))⟩
    · go_enter Tryz.func163, Tryz.ntmps163
      go_wp2_with fail
      go_loopw [5] (fun k wr => k = .int .i64 0 ∧ Below w.heap.size w wr) (fun k _ => 0)
      case atStart => exact ⟨rfl, Below.refl _ _⟩
      case round =>
        obtain ⟨rfl, hbr⟩ := hrel
        go_wp2_with fail
        go_ret
        exact ⟨ret_bool (by simp [chkRows]; omega), hbr⟩
theorem rowsRef_any {w : World} {v : Value} {rs : List RowS} (p : Int) (h : IsRows w v rs) :
    Calls Tryz.prog 163 #[v, .int .i64 p] w fun e w' => e = .returned (.bool (chkRows rs p)) ∧ Below w.heap.size w w' := by
  cases h with
  | none sp sc hn => exact rowsRef_nil sp sc p w
  | some a cap rs hlen hcap h0 h => exact rowsRef_some rs a cap p w hlen hcap h

def okStmt (party seq : Int) (rs : List RowS) : Bool := decide (1 ≤ seq) && decide (seq ≤ 1073741824) && chkRows rs party

set_option maxHeartbeats 1000000 in
theorem rowsValid_any {w : World} {v : Value} {rs : List RowS} (p q : Int) (h : IsRows w v rs) (hL : Laid w) :
    Calls Tryz.prog 159 #[.agg #[.int .i64 p, .int .i64 q, v]] w fun e w' => e = .returned (.bool (okStmt p q rs)) ∧ Below w.heap.size w w' := by
  obtain ⟨sp, sc, rfl, _⟩ := h.slice
  have hC := fun w' (hb : Below w.heap.size w w') => rowsCheck_any p (h.below hb h.lt) (hL.below hb hL.1)
  clear h hL
  by_cases h1 : 1 ≤ q
  · by_cases h2 : q ≤ 1073741824
    · have HQ := Lib.hid (show okStmt p q rs = chkRows rs p by simp [okStmt, h1, h2])
      go_enter Tryz.func159, Tryz.ntmps159
      go_wp2_with (go_at_call 175; go_must ((with_reducible refine (hC _ (by with_reducible (repeat (first | assumption | exact Below.refl _ _ | refine Below.drew ?_ | refine below_drewN ?_ _ | refine Below.alloc ?_ (by first | (simp; done) | omega | (simp; omega)) _ | refine Below.setCell ?_ (by first | (simp; done) | omega | (simp; omega)) _ | refine Below.trans ?_ (Below.mono (by assumption) (by first | (simp; done) | omega | (simp; omega))))))).mono ?_); rintro e w1 ⟨rfl, hb⟩; obtain ⟨hc, hf⟩ := bcell hb; have hz := hb.size; (try simp at hz); (try have hzT := Nat.lt_of_succ_le hz); have hzA : w.heap.size < w1.heap.size := (by omega); have hzA2 := Nat.le_of_lt hzA))
      go_ret
      exact ⟨by rw [HQ.out]; rfl, (by with_reducible (repeat (first | assumption | exact Below.refl _ _ | refine Below.drew ?_ | refine below_drewN ?_ _ | refine Below.alloc ?_ (by first | (simp; done) | omega | (simp; omega)) _ | refine Below.setCell ?_ (by first | (simp; done) | omega | (simp; omega)) _ | refine Below.trans ?_ (Below.mono (by assumption) (by first | (simp; done) | omega | (simp; omega))))))⟩
    · have h2' : 1073741824 < q := by omega
      have HQ := Lib.hid (show okStmt p q rs = false by simp [okStmt]; omega)
      go_enter Tryz.func159, Tryz.ntmps159
      go_wp2_with fail
      go_ret
      exact ⟨by rw [HQ.out]; rfl, (by with_reducible (repeat (first | assumption | exact Below.refl _ _ | refine Below.drew ?_ | refine below_drewN ?_ _ | refine Below.alloc ?_ (by first | (simp; done) | omega | (simp; omega)) _ | refine Below.setCell ?_ (by first | (simp; done) | omega | (simp; omega)) _ | refine Below.trans ?_ (Below.mono (by assumption) (by first | (simp; done) | omega | (simp; omega))))))⟩
  · have h1' : q < 1 := by omega
    have HQ := Lib.hid (show okStmt p q rs = false by simp [okStmt]; omega)
    go_enter Tryz.func159, Tryz.ntmps159
    go_wp2_with fail
    go_ret
    exact ⟨by rw [HQ.out]; rfl, (by with_reducible (repeat (first | assumption | exact Below.refl _ _ | refine Below.drew ?_ | refine below_drewN ?_ _ | refine Below.alloc ?_ (by first | (simp; done) | omega | (simp; omega)) _ | refine Below.setCell ?_ (by first | (simp; done) | omega | (simp; omega)) _ | refine Below.trans ?_ (Below.mono (by assumption) (by first | (simp; done) | omega | (simp; omega))))))⟩
set_option maxHeartbeats 1000000 in
theorem refValid_any {w : World} {v : Value} {rs : List RowS} (p q : Int) (h : IsRows w v rs) :
    Calls Tryz.prog 136 #[.agg #[.int .i64 p, .int .i64 q, v]] w fun e w' => e = .returned (.bool (okStmt p q rs)) ∧ Below w.heap.size w w' := by
  obtain ⟨sp, sc, rfl, _⟩ := h.slice
  have hC := fun w' (hb : Below w.heap.size w w') => rowsRef_any p (h.below hb h.lt)
  clear h
  by_cases h1 : 0 < q
  · by_cases h2 : q ≤ 1073741824
    · have HQ := Lib.hid (show okStmt p q rs = chkRows rs p by simp [okStmt, h2]; omega)
      go_enter Tryz.func136, Tryz.ntmps136
      go_wp2_with (go_at_call 163; go_must ((with_reducible refine (hC _ (by with_reducible (repeat (first | assumption | exact Below.refl _ _ | refine Below.drew ?_ | refine below_drewN ?_ _ | refine Below.alloc ?_ (by first | (simp; done) | omega | (simp; omega)) _ | refine Below.setCell ?_ (by first | (simp; done) | omega | (simp; omega)) _ | refine Below.trans ?_ (Below.mono (by assumption) (by first | (simp; done) | omega | (simp; omega))))))).mono ?_); rintro e w1 ⟨rfl, hb⟩; obtain ⟨hc, hf⟩ := bcell hb; have hz := hb.size; (try simp at hz); (try have hzT := Nat.lt_of_succ_le hz); have hzA : w.heap.size < w1.heap.size := (by omega); have hzA2 := Nat.le_of_lt hzA))
      go_ret
      exact ⟨by rw [HQ.out]; rfl, (by with_reducible (repeat (first | assumption | exact Below.refl _ _ | refine Below.drew ?_ | refine below_drewN ?_ _ | refine Below.alloc ?_ (by first | (simp; done) | omega | (simp; omega)) _ | refine Below.setCell ?_ (by first | (simp; done) | omega | (simp; omega)) _ | refine Below.trans ?_ (Below.mono (by assumption) (by first | (simp; done) | omega | (simp; omega))))))⟩
    · have h2' : 1073741824 < q := by omega
      have HQ := Lib.hid (show okStmt p q rs = false by simp [okStmt]; omega)
      go_enter Tryz.func136, Tryz.ntmps136
      go_wp2_with fail
      go_ret
      exact ⟨by rw [HQ.out]; rfl, (by with_reducible (repeat (first | assumption | exact Below.refl _ _ | refine Below.drew ?_ | refine below_drewN ?_ _ | refine Below.alloc ?_ (by first | (simp; done) | omega | (simp; omega)) _ | refine Below.setCell ?_ (by first | (simp; done) | omega | (simp; omega)) _ | refine Below.trans ?_ (Below.mono (by assumption) (by first | (simp; done) | omega | (simp; omega))))))⟩
  · have h1' : q ≤ 0 := by omega
    have HQ := Lib.hid (show okStmt p q rs = false by simp [okStmt]; omega)
    go_enter Tryz.func136, Tryz.ntmps136
    go_wp2_with fail
    go_ret
    exact ⟨by rw [HQ.out]; rfl, (by with_reducible (repeat (first | assumption | exact Below.refl _ _ | refine Below.drew ?_ | refine below_drewN ?_ _ | refine Below.alloc ?_ (by first | (simp; done) | omega | (simp; omega)) _ | refine Below.setCell ?_ (by first | (simp; done) | omega | (simp; omega)) _ | refine Below.trans ?_ (Below.mono (by assumption) (by first | (simp; done) | omega | (simp; omega))))))⟩
end Go.Proofs.YtibabfedpdoofaaGreatDoor
namespace Go.Proofs.YtibabfedpdoofaaGreatDoor
open Go.RowKit Go.Own

theorem run_key_eql (a b a' b' : Int) (w : World) : (binOp .eql 29 (.agg #[.int .i64 a, .int .i64 b]) (.agg #[.int .i64 a', .int .i64 b'])).run Tryz.prog w = .ok (.bool (decide (a = a') && decide (b = b'))) w := by
  go_simp
  (repeat' split) <;> simp_all

/-- Both slices, where there is a row. -/
theorem IsRows.at {w : World} {v : Value} {rs : List RowS} (h : IsRows w v rs) (hn : 0 < rs.length) : ∃ a cap, v = .slice (Option.some a) rs.length cap ∧ rs.length ≤ cap ∧ cap ≤ maxLen ∧ RowsAt w a rs := by
  cases h with
  | none sp sc _ => simp at hn
  | some a cap rs hlen hcap h0 h => exact ⟨a, cap, rfl, hlen, hcap, h⟩

end Go.Proofs.YtibabfedpdoofaaGreatDoor
namespace Go.Proofs.YtibabfedpdoofaaGreatDoor
open Go.RowKit Go.Own

theorem chkRows_row {rs : List RowS} {p : Int} (h : chkRows rs p = true) {j : Nat} (hj : j < rs.length) : mayRow rs[j] p = true ∧ rs.length ≤ 400 := by
  simp only [chkRows, Bool.and_eq_true, decide_eq_true_eq, List.all_eq_true, List.mem_range] at h
  have := h.2 j hj
  simp only [rowOkAt, List.getElem?_eq_getElem hj, Bool.and_eq_true] at this
  exact ⟨this.1, h.1.2⟩
end Go.Proofs.YtibabfedpdoofaaGreatDoor
namespace Go.Proofs.YtibabfedpdoofaaGreatDoor
open Go.RowKit Go.Own

theorem rowBounds {r : RowS} {p : Int} (h : mayRow r p = true) : 1 ≤ r.o ∧ r.o ≤ 60 ∧ 0 ≤ r.d ∧ r.d < 6 ∧ 1 ≤ r.code ∧ r.code ≤ 2 ∧ 0 ≤ r.amt ∧ r.amt ≤ 1099511627776 ∧ 0 ≤ r.qty ∧ r.qty ≤ 999 := by
  simp only [mayRow, keyOk, isDeed, Bool.and_eq_true, Bool.or_eq_true, decide_eq_true_eq] at h
  obtain ⟨⟨⟨⟨⟨h1, h2⟩, h3, h4⟩, _⟩, hc⟩, h5⟩ := h
  have : 0 ≤ r.amt ∧ r.amt ≤ 1099511627776 ∧ 0 ≤ r.qty ∧ r.qty ≤ 999 := by
    split at h5
    · simp at h5; omega
    · split at h5 <;> simp at h5 <;> omega
  omega
theorem okStmt_ok {p q : Int} {rs : List RowS} (h : okStmt p q rs = true) : 1 ≤ q ∧ q ≤ 1073741824 ∧ 0 ≤ p ∧ p ≤ 2 ∧ rs.length ≤ 400 ∧ chkRows rs p = true := by
  simp only [okStmt, Bool.and_eq_true, decide_eq_true_eq] at h
  have h2 := h.2
  simp only [chkRows, Bool.and_eq_true, decide_eq_true_eq] at h2
  exact ⟨h.1.1, h.1.2, h2.1.1.1, h2.1.1.2, h2.1.2, h.2⟩

end Go.Proofs.YtibabfedpdoofaaGreatDoor
namespace Go.Proofs.YtibabfedpdoofaaGreatDoor
open Go.RowKit Go.Own

def rowC (r : RowS) : List Value := [.int .i64 r.o, .int .i64 r.d, .int .i64 r.code, .int .i64 r.amt, .int .i64 r.qty]
theorem rowC_len (rs : List RowS) : ∀ l ∈ rs.map rowC, l.length = 5 := fun l hl => by obtain ⟨x, _, rfl⟩ := List.mem_map.1 hl; rfl
theorem isRows_of_isL {w : World} {v : Value} {rs : List RowS} (h : IsL w 5 v (rs.map rowC)) : IsRows w v rs := by
  generalize hL : rs.map rowC = M at h
  cases h with
  | none sp sc hn => obtain rfl : rs = [] := by simpa using hL
                     exact .none sp sc hn
  | some a cap M hlen hcap h0 hR =>
    subst hL
    simp only [List.length_map] at hlen h0 ⊢
    refine .some a cap rs hlen hcap h0 ⟨hR.lt, fun i hi => hR.c0 i (by simpa using hi) _ (by simp [rowC]), fun i hi => ?_, fun i hi => ?_, fun i hi => ?_, fun i hi => ?_⟩
    · exact hR.cj i (by simpa using hi) 0 _ (by simp [rowC])
    · exact hR.cj i (by simpa using hi) 1 _ (by simp [rowC])
    · exact hR.cj i (by simpa using hi) 2 _ (by simp [rowC])
    · exact hR.cj i (by simpa using hi) 3 _ (by simp [rowC])
end Go.Proofs.YtibabfedpdoofaaGreatDoor
namespace Go.Proofs.YtibabfedpdoofaaGreatDoor
open Go.RowKit Go.Own

theorem lAt_of_rows {w : World} {a : Addr} {rs : List RowS} (h : RowsAt w a rs) : LAt w a 5 (rs.map rowC) := by
  refine ⟨h.lt, fun i hi j u hu => ?_⟩
  have hi' : i < rs.length := by simpa using hi
  simp only [List.getElem_map] at hu
  match j, hu with
  | 0, hu => simp [rowC] at hu; subst hu; rw [add0]; exact h.c0 i hi'
  | 1, hu => simp [rowC] at hu; subst hu; rw [lAdd1]; exact h.c1 i hi'
  | 2, hu => simp [rowC] at hu; subst hu; rw [lAdd1]; exact h.c2 i hi'
  | 3, hu => simp [rowC] at hu; subst hu; rw [lAdd1]; exact h.c3 i hi'
  | 4, hu => simp [rowC] at hu; subst hu; rw [lAdd1]; exact h.c4 i hi'
  | j + 5, hu => simp [rowC] at hu
theorem rowC_one (rs : List RowS) : ∀ u ∈ (rs.map rowC).flatten, u.oneCell' = true := fun u hu => by
  obtain ⟨l, hl, hu⟩ := List.mem_flatten.1 hu
  obtain ⟨r, _, rfl⟩ := List.mem_map.1 hl
  simp [rowC] at hu
  rcases hu with rfl | rfl | rfl | rfl | rfl <;> rfl
theorem isL_of_isRows {w : World} {v : Value} {rs : List RowS} (h : IsRows w v rs) : IsL w 5 v (rs.map rowC) := by
  cases h with
  | none sp sc hn => exact .none sp sc hn
  | some a cap rs hlen hcap h0 h =>
    have := IsL.some (w := w) (k := 5) a cap (rs.map rowC) (by rw [List.length_map]; exact hlen) hcap (by rw [List.length_map]; exact h0) (lAt_of_rows h)
    rwa [List.length_map] at this
end Go.Proofs.YtibabfedpdoofaaGreatDoor
namespace Go.Proofs.YtibabfedpdoofaaGreatDoor
open Go.RowKit Go.Own Go.Maps

theorem mkLaid : laidOutB Tryz.prog = true := by kernel_rfl
theorem mkRow : 29 < Tryz.prog.types.size := of_decide_eq_true (by kernel_rfl)
set_option maxRecDepth 100000 in
theorem mkWide : (match Tryz.prog.underlying 29 with | some (.array _ _) | some (.struct _) => true | _ => false) = true := by kernel_rfl
set_option maxRecDepth 100000 in
theorem keyKeyed : Keyed Tryz.prog 29 := Keyed.of_law (deep_law_laid mkLaid (m := 2) (by omega) mkRow (by kernel_rfl) mkWide)
theorem mkCells : Tryz.prog.cellsOf 29 = 2 := by kernel_rfl
theorem mkCells1 : Tryz.prog.cellsOf 3 = 1 := by kernel_rfl
theorem mkType : Tryz.prog.keyType 29 = true := by kernel_rfl
theorem mkSize : decide (2 ≤ Tryz.prog.types.size) = true := by kernel_rfl
theorem keyLits_int (n : Nat) {o : Int} (h1 : (Lit.int .i64 o).wf = true) : Tryz.prog.keyLits (n + 1) 3 [.int .i64 o] = some [.int .i64 o] := by
  unfold Program.keyLits
  rw [Tryz.underlying3]
  simp [h1]
theorem keyLits_key (n : Nat) {o d : Int} (h1 : (Lit.int .i64 o).wf = true) (h2 : (Lit.int .i64 d).wf = true) : Tryz.prog.keyLits (n + 2) 29 [.int .i64 o, .int .i64 d] = some [.int .i64 o, .int .i64 d] := by
  unfold Program.keyLits
  rw [Tryz.underlying29]
  simp [mkCells, mkCells1, keyLits_int n h1, keyLits_int n h2]
theorem key_formed (o d : Int) : (Value.agg #[.int .i64 o, .int .i64 d]).formed Tryz.prog 29 = true := by
  unfold Value.formed
  rw [Tryz.underlying29]
  simp [mkCells]
theorem keyOf_some {o d : Int} (h1 : (Lit.int .i64 o).wf = true) (h2 : (Lit.int .i64 d).wf = true) : ∃ l, keyOf Tryz.prog 29 (.agg #[.int .i64 o, .int .i64 d]) = some l := by
  have hs := of_decide_eq_true mkSize
  obtain ⟨m, hm⟩ : ∃ m, Tryz.prog.types.size + 1 = m + 2 := ⟨Tryz.prog.types.size - 1, by omega⟩
  unfold keyOf
  rw [Tryz.underlying29]
  simp only [mkType, key_formed, Bool.and_self, if_true, hm]
  rw [show (Value.agg #[.int .i64 o, .int .i64 d]).cells.toList = [.int .i64 o, .int .i64 d] from rfl, keyLits_key m h1 h2]
  exact ⟨_, rfl⟩
noncomputable def keyLit (o d : Int) : Lit := (keyOf Tryz.prog 29 (.agg #[.int .i64 o, .int .i64 d])).getD (.bool true)
theorem keyOf_lit {o d : Int} (h1 : (Lit.int .i64 o).wf = true) (h2 : (Lit.int .i64 d).wf = true) : keyOf Tryz.prog 29 (.agg #[.int .i64 o, .int .i64 d]) = some (keyLit o d) := by
  obtain ⟨l, hl⟩ := keyOf_some h1 h2
  rw [keyLit, hl]
  rfl
theorem keyLit_inj {o d o' d' : Int} (h1 : (Lit.int .i64 o).wf = true) (h2 : (Lit.int .i64 d).wf = true) (h1' : (Lit.int .i64 o').wf = true) (h2' : (Lit.int .i64 d').wf = true) (h : keyLit o d = keyLit o' d') : o = o' ∧ d = d' := by
  have := keyKeyed.inj (keyOf_lit h1 h2) (by rw [h]; exact keyOf_lit h1' h2')
  simpa using this
/-- Rows put into a map, one behind the other, each by its key. -/
noncomputable def putRows (f : Lit → Option Value) : List RowS → Lit → Option Value
  | [] => f
  | r :: rs => putRows (updF f (keyLit r.o r.d) r.v) rs
theorem putRows_snoc (f : Lit → Option Value) : ∀ (rs : List RowS) (r : RowS), putRows f (rs ++ [r]) = updF (putRows f rs) (keyLit r.o r.d) r.v
  | [], _ => rfl
  | x :: rs, r => by rw [List.cons_append, putRows, putRows_snoc _ rs r]; rfl
end Go.Proofs.YtibabfedpdoofaaGreatDoor
namespace Go.Proofs.YtibabfedpdoofaaGreatDoor
open Go.RowKit Go.Own

/-- The newest statement of each party. -/
structure InS where
  p0 : Int
  q0 : Int
  r0 : List RowS
  p1 : Int
  q1 : Int
  r1 : List RowS
  p2 : Int
  q2 : Int
  r2 : List RowS
def zeroI : InS := ⟨0, 0, [], 0, 0, [], 0, 0, []⟩
def InS.seq (A : InS) (p : Int) : Int := if p = 0 then A.q0 else if p = 1 then A.q1 else A.q2
def InS.rows (A : InS) (p : Int) : List RowS := if p = 0 then A.r0 else if p = 1 then A.r1 else A.r2
def InS.put (A : InS) (p q : Int) (rs : List RowS) : InS := if p = 0 then { A with p0 := p, q0 := q, r0 := rs } else if p = 1 then { A with p1 := p, q1 := q, r1 := rs } else { A with p2 := p, q2 := q, r2 := rs }
def InOk (A : InS) : Prop := chkRows A.r0 0 = true ∧ chkRows A.r1 1 = true ∧ chkRows A.r2 2 = true
def accE (A : InS) (p q : Int) (rs : List RowS) : Int := if okStmt p q rs = true then (if q ≤ A.seq p then 93 else 0) else 2
theorem zeroI_ok : InOk zeroI := ⟨by decide +kernel, by decide +kernel, by decide +kernel⟩
theorem accE_ok {A : InS} {p q : Int} {rs : List RowS} (h : accE A p q rs = 0) : okStmt p q rs = true ∧ A.seq p < q := by
  unfold accE at h
  split at h
  · rename_i h1
    split at h
    · cases h
    · exact ⟨h1, by omega⟩
  · cases h
theorem put_ok {A : InS} {p q : Int} {rs : List RowS} (h : InOk A) (h1 : okStmt p q rs = true) : InOk (A.put p q rs) := by
  obtain ⟨a, b, c⟩ := h
  obtain ⟨_, _, p0, p2, _, hc⟩ := okStmt_ok h1
  have hp : p = 0 ∨ p = 1 ∨ p = 2 := by omega
  rcases hp with rfl | rfl | rfl
  · exact ⟨hc, b, c⟩
  · exact ⟨a, hc, c⟩
  · exact ⟨a, b, hc⟩
theorem wf_small {n : Int} (h0 : 0 ≤ n) (h1 : n ≤ 1000) : (Lit.int .i64 n).wf = true := by
  simp [Lit.wf, IntKind.min, IntKind.max, IntKind.bits, IntKind.signed]
  omega
theorem rows_keys {rs : List RowS} {p : Int} (h : chkRows rs p = true) {j : Nat} (hj : j < rs.length) : (Lit.int .i64 rs[j].o).wf = true ∧ (Lit.int .i64 rs[j].d).wf = true := by
  have := rowBounds (chkRows_row h hj).1
  exact ⟨wf_small (by omega) (by omega), wf_small (by omega) (by omega)⟩
theorem rows_len {rs : List RowS} {p : Int} (h : chkRows rs p = true) : rs.length ≤ 400 := by
  simp only [chkRows, Bool.and_eq_true, decide_eq_true_eq] at h
  exact h.1.2
noncomputable def allF (A : InS) : Lit → Option Value := putRows (fun _ => none) (A.r0 ++ (A.r1 ++ A.r2))
/-- A row of an old slice, from whatever world it is read. -/
theorem oldRow {W : World} {v : Value} {rs : List RowS} {p : Option Addr} {n c : Nat} (h : IsRows W v rs) (e : v = .slice p n c) {j : Nat} (hj : j < rs.length) : ∃ a, p = some a ∧ ∀ (w' : World) (L : List Ent), Own W w' L → ∀ i u, (rowC rs[j])[i]? = some u → w'.cell? ((a.add (j * 5)).add i) = some u := by
  obtain ⟨a, cap, h1, _, _, hR⟩ := h.at (by omega)
  rw [e] at h1
  cases h1
  refine ⟨a, rfl, fun w' L hO i u hu => ?_⟩
  have hA := lAt_of_rows hR
  have := hA.c j (by simpa using hj) i u (by simpa using hu)
  rw [← this]
  exact hO.grown.cell (by rw [lBlock, lBlock]; exact hR.lt)
end Go.Proofs.YtibabfedpdoofaaGreatDoor
namespace Go.Proofs.YtibabfedpdoofaaGreatDoor
open Go.RowKit Go.Own

def LessR (a b : RowS) : Prop := keyLess a.o a.d b.o b.d = true
theorem LessR.trans {a b c : RowS} (h1 : LessR a b) (h2 : LessR b c) : LessR a c := by
  simp only [LessR, keyLess, Bool.or_eq_true, Bool.and_eq_true, decide_eq_true_eq] at *
  omega
theorem chkRows_iff {rs : List RowS} {p : Int} : chkRows rs p = true ↔ 0 ≤ p ∧ p ≤ 2 ∧ rs.length ≤ 400 ∧ (∀ r ∈ rs, mayRow r p = true) ∧ rs.Pairwise LessR := by
  simp only [chkRows, Bool.and_eq_true, decide_eq_true_eq, List.all_eq_true, List.mem_range]
  constructor
  · rintro ⟨⟨⟨h1, h2⟩, h3⟩, h4⟩
    have hs : ∀ i (hi : i + 1 < rs.length), LessR (rs[i]'(by omega)) rs[i + 1] := fun i hi => by
      have := h4 (i + 1) hi
      simp only [rowOkAt, List.getElem?_eq_getElem hi, Nat.add_sub_cancel, List.getElem?_eq_getElem (show i < rs.length by omega), Bool.and_eq_true] at this
      simpa [LessR] using this.2
    refine ⟨h1, h2, h3, fun r hr => ?_, ?_⟩
    · obtain ⟨i, hi, rfl⟩ := List.mem_iff_getElem.1 hr
      have := h4 i hi
      simp only [rowOkAt, List.getElem?_eq_getElem hi, Bool.and_eq_true] at this
      exact this.1
    · rw [List.pairwise_iff_getElem]
      intro i j hi hj hij
      induction j with
      | zero => omega
      | succ j ih =>
        by_cases e : i = j
        · subst e; exact hs i hj
        · exact (ih (by omega) (by omega)).trans (hs j hj)
  · rintro ⟨h1, h2, h3, h4, h5⟩
    refine ⟨⟨⟨h1, h2⟩, h3⟩, fun i hi => ?_⟩
    simp only [rowOkAt, List.getElem?_eq_getElem hi, h4 _ (List.getElem_mem hi), Bool.true_and]
    cases i with
    | zero => simp
    | succ i =>
      rw [List.pairwise_iff_getElem] at h5
      have := h5 i (i + 1) (by omega) hi (by omega)
      simp only [Nat.add_sub_cancel, List.getElem?_eq_getElem (show i < rs.length by omega)]
      simpa [LessR] using this
end Go.Proofs.YtibabfedpdoofaaGreatDoor
namespace Go.Proofs.YtibabfedpdoofaaGreatDoor
open Go.RowKit Go.Own

/-- The row of a deed, by the document. -/
def rowOf (A : InS) (o d : Int) : Option RowS := if keyOk o d = true then (A.rows (partyOf d)).find? (fun r => decide (r.o = o) && decide (r.d = d)) else none
def amtOf (x : Option RowS) : Int := match x with
  | some r => if r.code = 1 then r.amt else 0
  | none => 0
def netI (A : InS) (order : Int) : Int := amtOf (rowOf A order 1) - amtOf (rowOf A order 4)
set_option maxRecDepth 100000 in
theorem keyLit_ok {o d : Int} (h1 : (Lit.int .i64 o).wf = true) (h2 : (Lit.int .i64 d).wf = true) : WideAt.IsKeyLit (keyLit o d) := by
  have := keyOf_lit h1 h2
  exact Go.Maps.Keyed.key keyKeyed this
theorem key_self (l : Lit) (h : WideAt.IsKeyLit l) : l.sameKey l = true := WideAt.sameKey_self h
theorem putRows_none {o d : Int} (h1 : (Lit.int .i64 o).wf = true) (h2 : (Lit.int .i64 d).wf = true) : ∀ (rs : List RowS) (f : Lit → Option Value), (∀ r ∈ rs, (Lit.int .i64 r.o).wf = true ∧ (Lit.int .i64 r.d).wf = true) → (∀ r ∈ rs, ¬ (r.o = o ∧ r.d = d)) → putRows f rs (keyLit o d) = f (keyLit o d)
  | [], _, _, _ => rfl
  | r :: rs, f, hw, hn => by
    rw [putRows, putRows_none h1 h2 rs _ (fun x hx => hw x (by simp [hx])) (fun x hx => hn x (by simp [hx]))]
    unfold updF
    rw [if_neg]
    intro hs
    have hk := WideAt.sameKey_eq hs
    obtain ⟨w1, w2⟩ := hw r (by simp)
    obtain ⟨e1, e2⟩ := keyLit_inj h1 h2 w1 w2 hk
    exact hn r (by simp) ⟨e1.symm, e2.symm⟩
set_option maxRecDepth 100000 in
theorem putRows_some {o d : Int} (h1 : (Lit.int .i64 o).wf = true) (h2 : (Lit.int .i64 d).wf = true) {r : RowS} (hr : r.o = o ∧ r.d = d) : ∀ (rs : List RowS) (f : Lit → Option Value), (∀ r ∈ rs, (Lit.int .i64 r.o).wf = true ∧ (Lit.int .i64 r.d).wf = true) → r ∈ rs → (∀ x ∈ rs, x.o = o ∧ x.d = d → x = r) → putRows f rs (keyLit o d) = some r.v
  | [], _, _, hm, _ => by cases hm
  | x :: rs, f, hw, hm, hu => by
    rw [putRows]
    by_cases hin : r ∈ rs
    · exact putRows_some h1 h2 hr rs _ (fun y hy => hw y (by simp [hy])) hin (fun y hy => hu y (by simp [hy]))
    · have hx : r = x := by
        rcases List.mem_cons.1 hm with h | h
        · exact h
        · exact absurd h hin
      subst hx
      rw [putRows_none h1 h2 rs _ (fun y hy => hw y (by simp [hy])) (fun y hy hk => hin (by rw [← hu y (by simp [hy]) hk]; exact hy))]
      rw [hr.1, hr.2]
      have hs := key_self (keyLit o d) (keyLit_ok h1 h2)
      generalize keyLit o d = l at *
      exact if_pos hs
theorem row_party {rs : List RowS} {p : Int} (h : chkRows rs p = true) {r : RowS} (hr : r ∈ rs) : keyOk r.o r.d = true ∧ partyOf r.d = p := by
  obtain ⟨_, _, _, h4, _⟩ := chkRows_iff.1 h
  have := h4 r hr
  simp only [mayRow, Bool.and_eq_true, decide_eq_true_eq] at this
  exact ⟨this.1.1.1, this.1.1.2⟩
theorem row_unique {rs : List RowS} {p : Int} (h : chkRows rs p = true) {r s : RowS} (hr : r ∈ rs) (hs : s ∈ rs) (e1 : r.o = s.o) (e2 : r.d = s.d) : r = s := by
  obtain ⟨_, _, _, _, h5⟩ := chkRows_iff.1 h
  rw [List.pairwise_iff_getElem] at h5
  obtain ⟨i, hi, rfl⟩ := List.mem_iff_getElem.1 hr
  obtain ⟨j, hj, rfl⟩ := List.mem_iff_getElem.1 hs
  rcases Nat.lt_trichotomy i j with h | h | h
  · have := h5 i j hi hj h
    simp only [LessR, keyLess, Bool.or_eq_true, Bool.and_eq_true, decide_eq_true_eq] at this
    omega
  · subst h; rfl
  · have := h5 j i hj hi h
    simp only [LessR, keyLess, Bool.or_eq_true, Bool.and_eq_true, decide_eq_true_eq] at this
    omega
theorem mem_rows {A : InS} (h : InOk A) {r : RowS} (hr : r ∈ A.r0 ++ (A.r1 ++ A.r2)) : r ∈ A.rows (partyOf r.d) ∧ keyOk r.o r.d = true := by
  obtain ⟨a, b, c⟩ := h
  rcases List.mem_append.1 hr with h | h
  · obtain ⟨k, p⟩ := row_party a h
    exact ⟨by rw [p]; exact h, k⟩
  · rcases List.mem_append.1 h with h | h
    · obtain ⟨k, p⟩ := row_party b h
      exact ⟨by rw [p]; exact h, k⟩
    · obtain ⟨k, p⟩ := row_party c h
      exact ⟨by rw [p]; exact h, k⟩
theorem rows_mem {A : InS} {p : Int} {r : RowS} (hr : r ∈ A.rows p) : r ∈ A.r0 ++ (A.r1 ++ A.r2) := by
  unfold InS.rows at hr
  split at hr
  · simp [hr]
  · split at hr <;> simp [hr]
theorem rows_chk {A : InS} (h : InOk A) {d : Int} {o : Int} (hk : keyOk o d = true) : chkRows (A.rows (partyOf d)) (partyOf d) = true := by
  obtain ⟨a, b, c⟩ := h
  have hd : 0 ≤ d ∧ d < 6 := by simp only [keyOk, isDeed, Bool.and_eq_true, decide_eq_true_eq] at hk; omega
  have : partyOf d = 0 ∨ partyOf d = 1 ∨ partyOf d = 2 := by unfold partyOf; omega
  rcases this with e | e | e <;> rw [e]
  · exact a
  · exact b
  · exact c
theorem row_wf {A : InS} (h : InOk A) {r : RowS} (hr : r ∈ A.r0 ++ (A.r1 ++ A.r2)) : (Lit.int .i64 r.o).wf = true ∧ (Lit.int .i64 r.d).wf = true := by
  have hk := (mem_rows h hr).2
  simp only [keyOk, isDeed, Bool.and_eq_true, decide_eq_true_eq] at hk
  exact ⟨wf_small (by omega) (by omega), wf_small (by omega) (by omega)⟩
theorem allF_row {A : InS} (h : InOk A) {o d : Int} (h1 : (Lit.int .i64 o).wf = true) (h2 : (Lit.int .i64 d).wf = true) : allF A (keyLit o d) = (rowOf A o d).map RowS.v := by
  unfold allF rowOf
  by_cases hk : keyOk o d = true
  · rw [if_pos hk]
    cases hf : (A.rows (partyOf d)).find? (fun r => decide (r.o = o) && decide (r.d = d)) with
    | none =>
      rw [putRows_none h1 h2 _ _ (fun r hr => row_wf h hr)]
      · rfl
      · rintro r hr ⟨e1, e2⟩
        have := List.find?_eq_none.1 hf r (by have := (mem_rows h hr).1; rwa [e2] at this)
        simp [e1, e2] at this
    | some r =>
      have hm := List.mem_of_find?_eq_some hf
      have he := List.find?_some hf
      simp only [Bool.and_eq_true, decide_eq_true_eq] at he
      exact putRows_some h1 h2 he _ _ (fun r hr => row_wf h hr) (rows_mem hm) (fun x hx hxk => row_unique (rows_chk h hk) (by have := (mem_rows h hx).1; rwa [hxk.2] at this) hm (by omega) (by omega))
  · rw [if_neg hk, putRows_none h1 h2 _ _ (fun r hr => row_wf h hr)]
    · rfl
    · rintro r hr ⟨e1, e2⟩
      have := (mem_rows h hr).2
      rw [e1, e2] at this
      exact hk this
theorem rowOf_bound {A : InS} (h : InOk A) (o d : Int) : 0 ≤ amtOf (rowOf A o d) ∧ amtOf (rowOf A o d) ≤ 1099511627776 := by
  unfold amtOf
  cases hr : rowOf A o d with
  | none => exact ⟨by decide, by decide⟩
  | some r =>
    simp only
    unfold rowOf at hr
    split at hr
    · rename_i hk
      have hm := List.mem_of_find?_eq_some hr
      obtain ⟨_, _, _, h4, _⟩ := chkRows_iff.1 (rows_chk h hk)
      have := rowBounds (h4 r hm)
      split
      · omega
      · exact ⟨by decide, by decide⟩
    · cases hr
end Go.Proofs.YtibabfedpdoofaaGreatDoor
namespace Go.Proofs.YtibabfedpdoofaaGreatDoor
open Go.RowKit Go.Own Go.Maps

/-- An intake's map: none, or one that bears g. -/
def MapIs (m : Value) (g : Lit → Option Value) (W : World) : Prop := (m = .map none ∧ ∀ l, g l = none) ∨ ∃ b n, m = .map (some b) ∧ (mapE Tryz.prog 29 b n g).F W
theorem MapIs.below {m : Value} {g : Lit → Option Value} {W w : World} (h : MapIs m g W) (hb : Below W.heap.size W w) : MapIs m g w := by
  rcases h with h | ⟨b, n, rfl, hF⟩
  · exact .inl h
  · refine .inr ⟨b, n, rfl, mapE_ok _ _ _ _ _ W w (fun b' hb' => ?_) hF⟩
    obtain rfl := List.mem_singleton.1 hb'
    obtain ⟨D, hD, _⟩ := hF
    exact hb.block _ hD.lt
theorem MapIs.form {m : Value} {g : Lit → Option Value} {W : World} (h : MapIs m g W) : m = .map none ∨ ∃ b, m = .map (some b) := by
  rcases h with h | ⟨b, n, rfl, hF⟩
  · exact .inl h.1
  · exact .inr ⟨b, rfl⟩
def rowT (x : Option RowS) : Value := match x with
  | some r => .agg #[.int .i64 r.o, .int .i64 r.d, .int .i64 r.code, .int .i64 r.amt, .int .i64 r.qty]
  | none => .agg #[.int .i64 0, .int .i64 0, .int .i64 0, .int .i64 0, .int .i64 0]

set_option maxHeartbeats 8000000 in
set_option maxRecDepth 100000 in
theorem intAmount_any {W : World} {v0 v1 v2 m : Value} {g : Lit → Option Value} (A : InS) (o d : Int) (x : Option RowS) (h0 : IsRows W v0 A.r0) (h1 : IsRows W v1 A.r1) (h2 : IsRows W v2 A.r2) (hm : MapIs m g W) (w1 : (Lit.int .i64 o).wf = true) (w2 : (Lit.int .i64 d).wf = true) (hx : g (keyLit o d) = x.map RowS.v) :
    Calls Tryz.prog 160 #[.agg #[.int .i64 (A).p0, .int .i64 (A).q0, v0, .int .i64 (A).p1, .int .i64 (A).q1, v1, .int .i64 (A).p2, .int .i64 (A).q2, v2, m], .int .i64 o, .int .i64 d] W fun e w' => e = .returned (.int .i64 (amtOf x)) ∧ Below W.heap.size W w' := by
  obtain ⟨s0, c0, rfl, -⟩ := h0.slice
  obtain ⟨s1, c1, rfl, -⟩ := h1.slice
  obtain ⟨s2, c2, rfl, -⟩ := h2.slice
  generalize A.r0.length = n0 at *
  generalize A.r1.length = n1 at *
  generalize A.r2.length = n2 at *
  have HK := Lib.hid (keyOf_lit w1 w2)
  have HO := Own.start W
  clear h0 h1 h2 w1 w2
  rcases hm with ⟨rfl, hg⟩ | ⟨b, n, rfl, hF⟩
  · rw [hg] at hx
    cases x with
    | some r => cases hx
    | none =>
      clear hg hx
      go_enter Tryz.func160, Tryz.ntmps160
      go_wp2_with (first | ((with_reducible apply wpList_boxAgg _ HO rfl); exact rfl; exact rfl; exact rfl; clear HO; intro b2 w HO; (simp only [Act.put, zA, zB, zC])) | (first | go_big_skip | ((with_reducible apply wpList_loadAll HO); exact rfl; exact rfl; (repeat (with_reducible (first | exact At.head _ | apply At.tail))); infer_instance; exact rfl; exact rfl; (simp only [Act.put, zA, zB, zC])) | ((with_reducible apply wpList_loadOne HO); exact rfl; exact rfl; (repeat (with_reducible (first | exact At.head _ | apply At.tail))); exact rfl; infer_instance; exact rfl; (simp only [Act.put, zA, zB, zC]))) | ((with_reducible apply wpList_storeAll HO); exact rfl; exact rfl; exact rfl; (repeat (with_reducible (first | exact At.head _ | apply At.tail))); infer_instance; exact rfl; exact rfl; exact rfl; exact rfl; clear HO; intro w HO; (simp only [Act.put])) | ((with_reducible apply wpList_loadPart HO); exact rfl; exact rfl; (repeat (with_reducible (first | exact At.head _ | apply At.tail))); infer_instance; exact (Nat.le_of_ble_eq_true rfl); (simp only [List.drop_succ_cons, List.drop_zero, List.take_succ_cons, List.take_zero]; rfl); exact rfl; (simp only [Act.put, zA, zB, zC])) | ((with_reducible apply wpList_mapLookNil (kt := 29) (et := 160)); exact rfl; exact rfl; exact rfl; exact keyKeyed; exact Tryz.underlying139; infer_instance; exact HK.out; exact rfl; (simp only [Act.put, zA, zB, zC])) | (first | ((with_reducible apply wpList_boxAgg _ HO rfl); exact rfl; exact rfl; exact rfl; clear HO; intro b4 w HO; (simp only [Act.put, zA, zB, zC])) | ((with_reducible apply wpList_allocAgg _ HO rfl); exact rfl; infer_instance; exact rfl; clear HO; intro b4 w HO; (simp only [Act.put, zA, zB, zC]))))
      go_ret
      exact ⟨rfl, HO.grown⟩
  · have HF := Lib.hid hF
    have HX := Lib.hid hx
    clear hF hx
    cases x with
    | none =>
      replace HX := Lib.hid (show g (keyLit o d) = none from HX.out)
      go_enter Tryz.func160, Tryz.ntmps160
      go_wp2_with (first | ((with_reducible apply wpList_boxAgg _ HO rfl); exact rfl; exact rfl; exact rfl; clear HO; intro b2 w HO; (simp only [Act.put, zA, zB, zC])) | (first | go_big_skip | ((with_reducible apply wpList_loadAll HO); exact rfl; exact rfl; (repeat (with_reducible (first | exact At.head _ | apply At.tail))); infer_instance; exact rfl; exact rfl; (simp only [Act.put, zA, zB, zC])) | ((with_reducible apply wpList_loadOne HO); exact rfl; exact rfl; (repeat (with_reducible (first | exact At.head _ | apply At.tail))); exact rfl; infer_instance; exact rfl; (simp only [Act.put, zA, zB, zC]))) | ((with_reducible apply wpList_storeAll HO); exact rfl; exact rfl; exact rfl; (repeat (with_reducible (first | exact At.head _ | apply At.tail))); infer_instance; exact rfl; exact rfl; exact rfl; exact rfl; clear HO; intro w HO; (simp only [Act.put])) | ((with_reducible apply wpList_loadPart HO); exact rfl; exact rfl; (repeat (with_reducible (first | exact At.head _ | apply At.tail))); infer_instance; exact (Nat.le_of_ble_eq_true rfl); (simp only [List.drop_succ_cons, List.drop_zero, List.take_succ_cons, List.take_zero]; rfl); exact rfl; (simp only [Act.put, zA, zB, zC])) | ((with_reducible apply wpList_mapLookOld HO (kt := 29) (et := 160)); exact rfl; exact rfl; exact rfl; exact HF.out; exact keyKeyed; exact Tryz.underlying139; infer_instance; exact HK.out; (rw [HX.out]); exact rfl; (simp only [Act.put, zA, zB, zC])) | (first | ((with_reducible apply wpList_boxAgg _ HO rfl); exact rfl; exact rfl; exact rfl; clear HO; intro b4 w HO; (simp only [Act.put, zA, zB, zC])) | ((with_reducible apply wpList_allocAgg _ HO rfl); exact rfl; infer_instance; exact rfl; clear HO; intro b4 w HO; (simp only [Act.put, zA, zB, zC]))))
      go_ret
      exact ⟨rfl, HO.grown⟩
    | some r =>
      obtain ⟨ro, rd, rc, ra, rq⟩ := r
      replace HX := Lib.hid (show g (keyLit o d) = some (.agg #[.int .i64 ro, .int .i64 rd, .int .i64 rc, .int .i64 ra, .int .i64 rq]) from HX.out)
      by_cases hc : rc = 1
      · subst hc
        go_enter Tryz.func160, Tryz.ntmps160
        go_wp2_with (first | ((with_reducible apply wpList_boxAgg _ HO rfl); exact rfl; exact rfl; exact rfl; clear HO; intro b2 w HO; (simp only [Act.put, zA, zB, zC])) | (first | go_big_skip | ((with_reducible apply wpList_loadAll HO); exact rfl; exact rfl; (repeat (with_reducible (first | exact At.head _ | apply At.tail))); infer_instance; exact rfl; exact rfl; (simp only [Act.put, zA, zB, zC])) | ((with_reducible apply wpList_loadOne HO); exact rfl; exact rfl; (repeat (with_reducible (first | exact At.head _ | apply At.tail))); exact rfl; infer_instance; exact rfl; (simp only [Act.put, zA, zB, zC]))) | ((with_reducible apply wpList_storeAll HO); exact rfl; exact rfl; exact rfl; (repeat (with_reducible (first | exact At.head _ | apply At.tail))); infer_instance; exact rfl; exact rfl; exact rfl; exact rfl; clear HO; intro w HO; (simp only [Act.put])) | ((with_reducible apply wpList_loadPart HO); exact rfl; exact rfl; (repeat (with_reducible (first | exact At.head _ | apply At.tail))); infer_instance; exact (Nat.le_of_ble_eq_true rfl); (simp only [List.drop_succ_cons, List.drop_zero, List.take_succ_cons, List.take_zero]; rfl); exact rfl; (simp only [Act.put, zA, zB, zC])) | ((with_reducible apply wpList_mapLookOld HO (kt := 29) (et := 160)); exact rfl; exact rfl; exact rfl; exact HF.out; exact keyKeyed; exact Tryz.underlying139; infer_instance; exact HK.out; (rw [HX.out]); exact rfl; (simp only [Act.put, zA, zB, zC])) | (first | ((with_reducible apply wpList_boxAgg _ HO rfl); exact rfl; exact rfl; exact rfl; clear HO; intro b4 w HO; (simp only [Act.put, zA, zB, zC])) | ((with_reducible apply wpList_allocAgg _ HO rfl); exact rfl; infer_instance; exact rfl; clear HO; intro b4 w HO; (simp only [Act.put, zA, zB, zC]))))
        go_ret
        exact ⟨rfl, HO.grown⟩
      · have HQ := Lib.hid (show amtOf (some ⟨ro, rd, rc, ra, rq⟩) = 0 by simp [amtOf, hc])
        have e1 : (rc == 1) = false := by simpa using hc
        have e2 : (rc != 1) = true := by simpa using hc
        clear hc
        go_enter Tryz.func160, Tryz.ntmps160
        go_wp2_with (first | ((with_reducible apply wpList_boxAgg _ HO rfl); exact rfl; exact rfl; exact rfl; clear HO; intro b2 w HO; (simp only [Act.put, zA, zB, zC])) | (first | go_big_skip | ((with_reducible apply wpList_loadAll HO); exact rfl; exact rfl; (repeat (with_reducible (first | exact At.head _ | apply At.tail))); infer_instance; exact rfl; exact rfl; (simp only [Act.put, zA, zB, zC])) | ((with_reducible apply wpList_loadOne HO); exact rfl; exact rfl; (repeat (with_reducible (first | exact At.head _ | apply At.tail))); exact rfl; infer_instance; exact rfl; (simp only [Act.put, zA, zB, zC]))) | ((with_reducible apply wpList_storeAll HO); exact rfl; exact rfl; exact rfl; (repeat (with_reducible (first | exact At.head _ | apply At.tail))); infer_instance; exact rfl; exact rfl; exact rfl; exact rfl; clear HO; intro w HO; (simp only [Act.put])) | ((with_reducible apply wpList_loadPart HO); exact rfl; exact rfl; (repeat (with_reducible (first | exact At.head _ | apply At.tail))); infer_instance; exact (Nat.le_of_ble_eq_true rfl); (simp only [List.drop_succ_cons, List.drop_zero, List.take_succ_cons, List.take_zero]; rfl); exact rfl; (simp only [Act.put, zA, zB, zC])) | ((with_reducible apply wpList_mapLookOld HO (kt := 29) (et := 160)); exact rfl; exact rfl; exact rfl; exact HF.out; exact keyKeyed; exact Tryz.underlying139; infer_instance; exact HK.out; (rw [HX.out]); exact rfl; (simp only [Act.put, zA, zB, zC])) | (first | ((with_reducible apply wpList_boxAgg _ HO rfl); exact rfl; exact rfl; exact rfl; clear HO; intro b4 w HO; (simp only [Act.put, zA, zB, zC])) | ((with_reducible apply wpList_allocAgg _ HO rfl); exact rfl; infer_instance; exact rfl; clear HO; intro b4 w HO; (simp only [Act.put, zA, zB, zC]))))
        go_ret
        exact ⟨by first | (rw [HQ.out]; done) | (rw [HQ.out]; rfl), HO.grown⟩

set_option maxHeartbeats 8000000 in
set_option maxRecDepth 100000 in
theorem intNet_any {W : World} {v0 v1 v2 m : Value} {g : Lit → Option Value} (A : InS) (o : Int) (h0 : IsRows W v0 A.r0) (h1 : IsRows W v1 A.r1) (h2 : IsRows W v2 A.r2) (hA : InOk A) (hm : MapIs m g W) (hg : ∀ o d, (Lit.int .i64 o).wf = true → (Lit.int .i64 d).wf = true → g (keyLit o d) = (rowOf A o d).map RowS.v) (w1 : (Lit.int .i64 o).wf = true) :
    Calls Tryz.prog 131 #[.agg #[.int .i64 (A).p0, .int .i64 (A).q0, v0, .int .i64 (A).p1, .int .i64 (A).q1, v1, .int .i64 (A).p2, .int .i64 (A).q2, v2, m], .int .i64 o] W fun e w' => e = .returned (.int .i64 (netI A o)) ∧ Below W.heap.size W w' := by
  have A1 : ∀ w, Below W.heap.size W w → Calls Tryz.prog 160 #[.agg #[.int .i64 (A).p0, .int .i64 (A).q0, v0, .int .i64 (A).p1, .int .i64 (A).q1, v1, .int .i64 (A).p2, .int .i64 (A).q2, v2, m], .int .i64 o, .int .i64 1] w fun e w' => e = .returned (.int .i64 (amtOf (rowOf A o 1))) ∧ Below w.heap.size w w' := fun w hb => intAmount_any A o 1 _ (h0.below hb h0.lt) (h1.below hb h1.lt) (h2.below hb h2.lt) (hm.below hb) w1 rfl (hg o 1 w1 rfl)
  have A4 : ∀ w, Below W.heap.size W w → Calls Tryz.prog 160 #[.agg #[.int .i64 (A).p0, .int .i64 (A).q0, v0, .int .i64 (A).p1, .int .i64 (A).q1, v1, .int .i64 (A).p2, .int .i64 (A).q2, v2, m], .int .i64 o, .int .i64 4] w fun e w' => e = .returned (.int .i64 (amtOf (rowOf A o 4))) ∧ Below w.heap.size w w' := fun w hb => intAmount_any A o 4 _ (h0.below hb h0.lt) (h1.below hb h1.lt) (h2.below hb h2.lt) (hm.below hb) w1 rfl (hg o 4 w1 rfl)
  have HQ := Lib.hid (show netI A o = amtOf (rowOf A o 1) - amtOf (rowOf A o 4) from rfl)
  obtain ⟨b1, b2⟩ := rowOf_bound hA o 1
  obtain ⟨b3, b4⟩ := rowOf_bound hA o 4
  generalize netI A o = z at *
  generalize amtOf (rowOf A o 1) = x1 at *
  generalize amtOf (rowOf A o 4) = x4 at *
  have hw : IntKind.i64.wrap (x1 - x4) = x1 - x4 := by
    simp [IntKind.wrap, IntKind.bits, IntKind.signed]; omega
  obtain ⟨s0, c0, rfl, -⟩ := h0.slice
  obtain ⟨s1, c1, rfl, -⟩ := h1.slice
  obtain ⟨s2, c2, rfl, -⟩ := h2.slice
  generalize A.r0.length = n0 at *
  generalize A.r1.length = n1 at *
  generalize A.r2.length = n2 at *
  have HO := Own.start W
  clear h0 h1 h2 hg b1 b2 b3 b4
  rcases hm.form with rfl | ⟨mb, rfl⟩
  all_goals
    clear hm
    go_enter Tryz.func131, Tryz.ntmps131
    go_wp2_with (first | ((with_reducible apply wpList_boxAgg _ HO rfl); exact rfl; exact rfl; exact rfl; clear HO; intro b5 w HO; (simp only [Act.put, zA, zB, zC])))
    refine region_own HO (by kernel_rfl) (by kernel_rfl) ?_
    clear HO
    intro F HF
    repeat (first | (first | go_big_quiet_skip | ((with_reducible apply wpQuiet_loadAll HF); exact rfl; exact rfl; (repeat (with_reducible (first | exact At.head _ | apply At.tail))); infer_instance; exact rfl; exact rfl; (simp only [Act.put, zA, zB, zC])) | ((with_reducible apply wpQuiet_loadOne HF); exact rfl; exact rfl; (repeat (with_reducible (first | exact At.head _ | apply At.tail))); exact rfl; infer_instance; exact rfl; (simp only [Act.put, zA, zB, zC])) | ((with_reducible apply wpQuiet_loadPart HF); exact rfl; exact rfl; (repeat (with_reducible (first | exact At.head _ | apply At.tail))); infer_instance; exact (Nat.le_of_ble_eq_true rfl); (simp only [List.drop_succ_cons, List.drop_zero, List.take_succ_cons, List.take_zero]; rfl); exact rfl; (simp only [Act.put, zA, zB, zC]))) | go_big_quiet_step ((go_at_call 160; first | (with_reducible exact calls_fam HF (A1 _ (HF.own _).grown)) | (with_reducible exact calls_fam HF (A4 _ (HF.own _).grown)))))
    refine wpQuiet_nil ?_
    intro x
    have HO := HF.own x
    clear HF
    generalize F x = w at *
    clear x F
    go_wp2_with fail
    go_ret
    exact ⟨by first | (rw [HQ.out]; done) | (rw [HQ.out]; rfl), HO.grown⟩
end Go.Proofs.YtibabfedpdoofaaGreatDoor

/-
  Whether rows may be a party's, by walking both texts; conditions: the rows lie in memory, the table of parties as laid.
-/
import Derived.Test.YtlfphfklcifgpaaDoorRowMay
namespace Go.Proofs.YtlfphfklcifgpaaDoor
open Go.RowKit Go.Own

/-- Rows lie in memory, one behind the other, from a on. -/
structure RowsAt (w : World) (a : Addr) (rs : List RowS) : Prop where
  lt : a.block < w.heap.size
  c0 : ∀ i (h : i < rs.length), w.cell? (a.add (i * 5)) = some (.int .i64 rs[i].o)
  c1 : ∀ i (h : i < rs.length), w.cell? ⟨(a.add (i * 5)).block, (a.add (i * 5)).off + 1, none⟩ = some (.int .i64 rs[i].d)
  c2 : ∀ i (h : i < rs.length), w.cell? ⟨(a.add (i * 5)).block, (a.add (i * 5)).off + 2, none⟩ = some (.int .i64 rs[i].code)
  c3 : ∀ i (h : i < rs.length), w.cell? ⟨(a.add (i * 5)).block, (a.add (i * 5)).off + 3, none⟩ = some (.int .i64 rs[i].amt)
  c4 : ∀ i (h : i < rs.length), w.cell? ⟨(a.add (i * 5)).block, (a.add (i * 5)).off + 4, none⟩ = some (.int .i64 rs[i].qty)
theorem add_block (a : Addr) (n : Nat) : (a.add n).block = a.block := by unfold Addr.add; split <;> rfl
theorem RowsAt.below {B : Nat} {w w' : World} {a : Addr} {rs : List RowS} (h : RowsAt w a rs) (hb : Below B w w') (hB : a.block < B) : RowsAt w' a rs := by
  have e : ∀ c : Addr, c.block = a.block → w'.cell? c = w.cell? c := fun c hc => World.cell?_of_block (w := w) (a := c) (hb.block _ (by rw [hc]; exact hB))
  have e2 : ∀ i k, w'.cell? ⟨(a.add (i * 5)).block, (a.add (i * 5)).off + k, none⟩ = w.cell? ⟨(a.add (i * 5)).block, (a.add (i * 5)).off + k, none⟩ := fun i k => e _ (add_block a (i * 5))
  have hs := hb.size
  obtain ⟨h0, h1, h2, h3, h4, h5⟩ := h
  exact ⟨by omega, fun i hi => (e _ (add_block _ _)).trans (h1 i hi), fun i hi => (e2 i 1).trans (h2 i hi), fun i hi => (e2 i 2).trans (h3 i hi), fun i hi => (e2 i 3).trans (h4 i hi), fun i hi => (e2 i 4).trans (h5 i hi)⟩

@[go_sem] theorem later_cell_any (W : World) (B : Nat) (x : World) (c : Addr) (h : c.block < B) : (later W B x).cell? c = W.cell? c := (later_below W B x).cell (p := c) h
@[go_sem] theorem alloc_cell_any (w : World) (o : Obj) (c : Addr) (h : c.block < w.heap.size) : (w.alloc o).cell? c = w.cell? c := ((Below.refl w.heap.size w).alloc (Nat.le_refl _) o).cell (p := c) h

def rowOkAt (rs : List RowS) (p : Int) (i : Nat) : Bool := match rs[i]? with
  | some r => mayRow r p && (decide (i = 0) || match rs[i - 1]? with
    | some q => keyLess q.o q.d r.o r.d
    | none => true)
  | none => true
def chkRows (rs : List RowS) (p : Int) : Bool := decide (0 ≤ p) && decide (p ≤ 2) && decide (rs.length ≤ 400) && (List.range rs.length).all (rowOkAt rs p)

theorem RowsAt.lt' {w : World} {a : Addr} {rs : List RowS} (h : RowsAt w a rs) (n : Nat) : (a.add n).block < w.heap.size := by rw [add_block]; exact h.lt
theorem chkRows_no {rs : List RowS} {p : Int} {i : Nat} (h : i < rs.length) (hf : rowOkAt rs p i = false) : chkRows rs p = false := by
  have : (List.range rs.length).all (rowOkAt rs p) = false := by
    rw [List.all_eq_false]
    exact ⟨i, by simpa using h, by simp [hf]⟩
  simp [chkRows, this]

set_option maxHeartbeats 4000000 in
set_option maxRecDepth 100000 in
theorem rowsCheck_some (rs : List RowS) (a : Addr) (cap : Nat) (p : Int) (w : World) (_hlen : rs.length ≤ cap) (_hcap : cap ≤ maxLen) (hR : RowsAt w a rs) (hL : Laid w) :
    Calls Tryd.prog 74 #[.slice (some a) rs.length cap, .int .i64 p] w fun e w' => e = .returned (.bool (chkRows rs p)) ∧ Below w.heap.size w w' := by
  have HR := Lib.hid hR
  have HL := Lib.hid hL
  have hpos : 0 < w.heap.size := hL.1
  have hlt := hR.lt
  clear hL hR
  by_cases hp : 0 ≤ p ∧ p ≤ 2 ∧ rs.length ≤ 400
  · obtain ⟨hp0, hp2, hl⟩ := hp
    have hl1 : (rs.length : Int) ≤ 400 := by omega
    go_enter Tryd.func74, Tryd.ntmps74
    go_wp2_with fail
    go_loopw [5, 6, 20] (fun _ _ k wr => ∃ j : Nat, j ≤ rs.length ∧ k = .int .i64 (j : Int) ∧ Below w.heap.size w wr ∧ ∀ i, i < j → rowOkAt rs p i = true) (fun _ _ k _ => (rs.length - (intOf k).toNat))
    case atStart => exact ⟨0, by omega, rfl, Below.refl _ _, by omega⟩
    case round =>
      obtain ⟨j, hj, rfl, hbr, hok⟩ := hrel
      by_cases hjl : j = rs.length
      · subst hjl
        go_wp2_with fail
        go_ret
        refine ⟨ret_bool ?_, hbr⟩
        simp [chkRows, hp0, hp2, hl]
        exact fun i hi => hok i hi
      · have hj1 : j < rs.length := by omega
        have hj2 : (j : Int) < (rs.length : Int) := by omega
        have hRr := HR.out.below hbr hlt
        have c0 := hRr.c0 j hj1
        have c1 := hRr.c1 j hj1
        have c2 := hRr.c2 j hj1
        have c3 := hRr.c3 j hj1
        have c4 := hRr.c4 j hj1
        have hb0 : (a.add (j * 5)).block < wr.heap.size := hRr.lt' _
        have hM := fun w h => rowMay_any rs[j] p w h
        have hg : rs[j]? = some rs[j] := List.getElem?_eq_getElem hj1
        simp only [RowS.v] at hM
        have hzr := hbr.size
        cases hm : mayRow rs[j] p
        · rw [hm] at hM
          have HQ := Lib.hid (show chkRows rs p = false from chkRows_no (i := j) hj1 (by simp [rowOkAt, hg, hm]))
          go_wp2_with fail
          refine region_later (by kernel_rfl) (by kernel_rfl) ?_
          repeat (first | go_big_quiet_step ((go_at_call 92; (with_reducible exact calls_later (by first | exact Nat.le_refl _ | (simp; done)) (hM _ (HL.out.deep hpos (by with_reducible (repeat (first | assumption | exact Below.refl _ _ | refine Below.drew ?_ | refine below_drewN ?_ _ | refine Below.alloc ?_ (by first | (simp; done) | omega | (simp; omega)) _ | refine Below.setCell ?_ (by first | (simp; done) | omega | (simp; omega)) _ | refine Below.trans ?_ (Below.mono (by assumption) (by first | (simp; done) | omega | (simp; omega)))))) (by first | omega | (simp; omega))))))) | quiet_step ((go_at_call 92; (with_reducible exact calls_later (by first | exact Nat.le_refl _ | (simp; done)) (hM _ (HL.out.deep hpos (by with_reducible (repeat (first | assumption | exact Below.refl _ _ | refine Below.drew ?_ | refine below_drewN ?_ _ | refine Below.alloc ?_ (by first | (simp; done) | omega | (simp; omega)) _ | refine Below.setCell ?_ (by first | (simp; done) | omega | (simp; omega)) _ | refine Below.trans ?_ (Below.mono (by assumption) (by first | (simp; done) | omega | (simp; omega)))))) (by first | omega | (simp; omega))))))))
          refine wpQuiet_nil ?_
          intro w1 hb
          obtain ⟨hc, hf⟩ := bcell hb
          go_wp2_with fail
          go_ret
          exact ⟨by rw [HQ.out]; rfl, (by with_reducible (repeat (first | assumption | exact Below.refl _ _ | refine Below.drew ?_ | refine below_drewN ?_ _ | refine Below.alloc ?_ (by first | (simp; done) | omega | (simp; omega)) _ | refine Below.setCell ?_ (by first | (simp; done) | omega | (simp; omega)) _ | refine Below.trans ?_ (Below.mono (by assumption) (by first | (simp; done) | omega | (simp; omega))))))⟩
        · rw [hm] at hM
          by_cases hj0 : j = 0
          · have hji : ¬ 0 < j := by omega
            have hok2 : ∀ k, k < j + 1 → rowOkAt rs p k = true := by
              intro k hk
              obtain rfl : k = j := by omega
              simp only [rowOkAt, hg, hm, Bool.true_and, Bool.or_eq_true, decide_eq_true_eq]
              exact .inl hj0
            clear hj0
            go_wp2_with fail
            refine region_later (by kernel_rfl) (by kernel_rfl) ?_
            repeat (first | go_big_quiet_step ((go_at_call 92; (with_reducible exact calls_later (by first | exact Nat.le_refl _ | (simp; done)) (hM _ (HL.out.deep hpos (by with_reducible (repeat (first | assumption | exact Below.refl _ _ | refine Below.drew ?_ | refine below_drewN ?_ _ | refine Below.alloc ?_ (by first | (simp; done) | omega | (simp; omega)) _ | refine Below.setCell ?_ (by first | (simp; done) | omega | (simp; omega)) _ | refine Below.trans ?_ (Below.mono (by assumption) (by first | (simp; done) | omega | (simp; omega)))))) (by first | omega | (simp; omega))))))) | quiet_step ((go_at_call 92; (with_reducible exact calls_later (by first | exact Nat.le_refl _ | (simp; done)) (hM _ (HL.out.deep hpos (by with_reducible (repeat (first | assumption | exact Below.refl _ _ | refine Below.drew ?_ | refine below_drewN ?_ _ | refine Below.alloc ?_ (by first | (simp; done) | omega | (simp; omega)) _ | refine Below.setCell ?_ (by first | (simp; done) | omega | (simp; omega)) _ | refine Below.trans ?_ (Below.mono (by assumption) (by first | (simp; done) | omega | (simp; omega)))))) (by first | omega | (simp; omega))))))))
            refine wpQuiet_nil ?_
            intro w1 hb
            obtain ⟨hc, hf⟩ := bcell hb
            go_wp2_with fail
            go_roundw
            case rel => exact ⟨j + 1, by omega, by go_num, (by with_reducible (repeat (first | assumption | exact Below.refl _ _ | refine Below.drew ?_ | refine below_drewN ?_ _ | refine Below.alloc ?_ (by first | (simp; done) | omega | (simp; omega)) _ | refine Below.setCell ?_ (by first | (simp; done) | omega | (simp; omega)) _ | refine Below.trans ?_ (Below.mono (by assumption) (by first | (simp; done) | omega | (simp; omega)))))), hok2⟩
            case measure => simp [intOf] <;> omega
          · obtain ⟨i, rfl⟩ : ∃ i, j = i + 1 := ⟨j - 1, by omega⟩
            have hi1 : i < rs.length := by omega
            have d0 := hRr.c0 i hi1
            have d1 := hRr.c1 i hi1
            have hb1 : (a.add (i * 5)).block < wr.heap.size := hRr.lt' _
            have hb2 : (a.add (i * 5)).block < wr.heap.size + 1 := by omega
            have hb3 : (a.add (i * 5)).block ≠ wr.heap.size := by omega
            have hb4 : wr.heap.size ≠ (a.add (i * 5)).block := by omega
            have hK := fun w => less_any rs[i].o rs[i].d rs[i + 1].o rs[i + 1].d w
            have hgi : rs[i]? = some rs[i] := List.getElem?_eq_getElem hi1
            have hj3 : (((i + 1 : Nat)) : Int) - 1 = (i : Int) := by omega
            have hi3 : (i : Int) < (rs.length : Int) := by omega
            have hi4 : (0 : Int) < ((i + 1 : Nat) : Int) := by omega
            cases hk : keyLess rs[i].o rs[i].d rs[i + 1].o rs[i + 1].d
            · rw [hk] at hK
              have HQ := Lib.hid (show chkRows rs p = false from chkRows_no (i := i + 1) hj1 (by simp [rowOkAt, hg, hm, hgi, hk]))
              go_wp2_with fail
              refine region_later (by kernel_rfl) (by kernel_rfl) ?_
              repeat (first | go_big_quiet_step ((first | (go_at_call 92; (with_reducible exact calls_later (by first | exact Nat.le_refl _ | (simp; done)) (hM _ (HL.out.deep hpos (by with_reducible (repeat (first | assumption | exact Below.refl _ _ | refine Below.drew ?_ | refine below_drewN ?_ _ | refine Below.alloc ?_ (by first | (simp; done) | omega | (simp; omega)) _ | refine Below.setCell ?_ (by first | (simp; done) | omega | (simp; omega)) _ | refine Below.trans ?_ (Below.mono (by assumption) (by first | (simp; done) | omega | (simp; omega)))))) (by first | omega | (simp; omega)))))) | (go_at_call 93; (with_reducible exact calls_later (by first | exact Nat.le_refl _ | (simp; done)) (hK _))))) | quiet_step ((first | (go_at_call 92; (with_reducible exact calls_later (by first | exact Nat.le_refl _ | (simp; done)) (hM _ (HL.out.deep hpos (by with_reducible (repeat (first | assumption | exact Below.refl _ _ | refine Below.drew ?_ | refine below_drewN ?_ _ | refine Below.alloc ?_ (by first | (simp; done) | omega | (simp; omega)) _ | refine Below.setCell ?_ (by first | (simp; done) | omega | (simp; omega)) _ | refine Below.trans ?_ (Below.mono (by assumption) (by first | (simp; done) | omega | (simp; omega)))))) (by first | omega | (simp; omega)))))) | (go_at_call 93; (with_reducible exact calls_later (by first | exact Nat.le_refl _ | (simp; done)) (hK _))))))
              refine wpQuiet_nil ?_
              intro w1 hb
              obtain ⟨hc, hf⟩ := bcell hb
              go_wp2_with fail
              go_ret
              exact ⟨by rw [HQ.out]; rfl, (by with_reducible (repeat (first | assumption | exact Below.refl _ _ | refine Below.drew ?_ | refine below_drewN ?_ _ | refine Below.alloc ?_ (by first | (simp; done) | omega | (simp; omega)) _ | refine Below.setCell ?_ (by first | (simp; done) | omega | (simp; omega)) _ | refine Below.trans ?_ (Below.mono (by assumption) (by first | (simp; done) | omega | (simp; omega))))))⟩
            · rw [hk] at hK
              have hok2 : ∀ k, k < i + 2 → rowOkAt rs p k = true := by
                intro k hk2
                rcases Nat.lt_or_ge k (i + 1) with h | h
                · exact hok k h
                · obtain rfl : k = i + 1 := by omega
                  simp [rowOkAt, hg, hm, hgi, hk]
              go_wp2_with fail
              refine region_later (by kernel_rfl) (by kernel_rfl) ?_
              repeat (first | go_big_quiet_step ((first | (go_at_call 92; (with_reducible exact calls_later (by first | exact Nat.le_refl _ | (simp; done)) (hM _ (HL.out.deep hpos (by with_reducible (repeat (first | assumption | exact Below.refl _ _ | refine Below.drew ?_ | refine below_drewN ?_ _ | refine Below.alloc ?_ (by first | (simp; done) | omega | (simp; omega)) _ | refine Below.setCell ?_ (by first | (simp; done) | omega | (simp; omega)) _ | refine Below.trans ?_ (Below.mono (by assumption) (by first | (simp; done) | omega | (simp; omega)))))) (by first | omega | (simp; omega)))))) | (go_at_call 93; (with_reducible exact calls_later (by first | exact Nat.le_refl _ | (simp; done)) (hK _))))) | quiet_step ((first | (go_at_call 92; (with_reducible exact calls_later (by first | exact Nat.le_refl _ | (simp; done)) (hM _ (HL.out.deep hpos (by with_reducible (repeat (first | assumption | exact Below.refl _ _ | refine Below.drew ?_ | refine below_drewN ?_ _ | refine Below.alloc ?_ (by first | (simp; done) | omega | (simp; omega)) _ | refine Below.setCell ?_ (by first | (simp; done) | omega | (simp; omega)) _ | refine Below.trans ?_ (Below.mono (by assumption) (by first | (simp; done) | omega | (simp; omega)))))) (by first | omega | (simp; omega)))))) | (go_at_call 93; (with_reducible exact calls_later (by first | exact Nat.le_refl _ | (simp; done)) (hK _))))))
              refine wpQuiet_nil ?_
              intro w1 hb
              obtain ⟨hc, hf⟩ := bcell hb
              go_wp2_with fail
              go_roundw
              case rel => exact ⟨i + 2, by omega, by go_num, (by with_reducible (repeat (first | assumption | exact Below.refl _ _ | refine Below.drew ?_ | refine below_drewN ?_ _ | refine Below.alloc ?_ (by first | (simp; done) | omega | (simp; omega)) _ | refine Below.setCell ?_ (by first | (simp; done) | omega | (simp; omega)) _ | refine Below.trans ?_ (Below.mono (by assumption) (by first | (simp; done) | omega | (simp; omega)))))), hok2⟩
              case measure => simp [intOf] <;> omega
  · have hQ : chkRows rs p = false := by simp only [chkRows]; simp; omega
    have HQ := Lib.hid hQ
    clear hQ
    by_cases h0 : p < 0
    · go_enter Tryd.func74, Tryd.ntmps74
      go_wp2_with fail
      go_ret
      exact ⟨by rw [HQ.out]; rfl, (by with_reducible (repeat (first | assumption | exact Below.refl _ _ | refine Below.drew ?_ | refine below_drewN ?_ _ | refine Below.alloc ?_ (by first | (simp; done) | omega | (simp; omega)) _ | refine Below.setCell ?_ (by first | (simp; done) | omega | (simp; omega)) _ | refine Below.trans ?_ (Below.mono (by assumption) (by first | (simp; done) | omega | (simp; omega))))))⟩
    · by_cases h2 : 2 < p
      · go_enter Tryd.func74, Tryd.ntmps74
        go_wp2_with fail
        go_ret
        exact ⟨by rw [HQ.out]; rfl, (by with_reducible (repeat (first | assumption | exact Below.refl _ _ | refine Below.drew ?_ | refine below_drewN ?_ _ | refine Below.alloc ?_ (by first | (simp; done) | omega | (simp; omega)) _ | refine Below.setCell ?_ (by first | (simp; done) | omega | (simp; omega)) _ | refine Below.trans ?_ (Below.mono (by assumption) (by first | (simp; done) | omega | (simp; omega))))))⟩
      · have h4 : (400 : Int) < (rs.length : Int) := by omega
        go_enter Tryd.func74, Tryd.ntmps74
        go_wp2_with fail
        go_ret
        exact ⟨by rw [HQ.out]; rfl, (by with_reducible (repeat (first | assumption | exact Below.refl _ _ | refine Below.drew ?_ | refine below_drewN ?_ _ | refine Below.alloc ?_ (by first | (simp; done) | omega | (simp; omega)) _ | refine Below.setCell ?_ (by first | (simp; done) | omega | (simp; omega)) _ | refine Below.trans ?_ (Below.mono (by assumption) (by first | (simp; done) | omega | (simp; omega))))))⟩

set_option maxHeartbeats 1000000 in
theorem rowsCheck_nil (sp : Option Addr) (sc : Nat) (p : Int) (w : World) : Calls Tryd.prog 74 #[.slice sp 0 sc, .int .i64 p] w fun e w' => e = .returned (.bool (chkRows [] p)) ∧ Below w.heap.size w w' := by
  by_cases h0 : p < 0
  · go_enter Tryd.func74, Tryd.ntmps74
    go_wp2_with fail
    go_ret
    exact ⟨ret_bool (by simp [chkRows]; omega), (by with_reducible (repeat (first | assumption | exact Below.refl _ _ | refine Below.drew ?_ | refine below_drewN ?_ _ | refine Below.alloc ?_ (by first | (simp; done) | omega | (simp; omega)) _ | refine Below.setCell ?_ (by first | (simp; done) | omega | (simp; omega)) _ | refine Below.trans ?_ (Below.mono (by assumption) (by first | (simp; done) | omega | (simp; omega))))))⟩
  · by_cases h2 : 2 < p
    · go_enter Tryd.func74, Tryd.ntmps74
      go_wp2_with fail
      go_ret
      exact ⟨ret_bool (by simp [chkRows]; omega), (by with_reducible (repeat (first | assumption | exact Below.refl _ _ | refine Below.drew ?_ | refine below_drewN ?_ _ | refine Below.alloc ?_ (by first | (simp; done) | omega | (simp; omega)) _ | refine Below.setCell ?_ (by first | (simp; done) | omega | (simp; omega)) _ | refine Below.trans ?_ (Below.mono (by assumption) (by first | (simp; done) | omega | (simp; omega))))))⟩
    · go_enter Tryd.func74, Tryd.ntmps74
      go_wp2_with fail
      go_loopw [5, 6, 20] (fun _ _ k wr => k = .int .i64 0 ∧ Below w.heap.size w wr) (fun _ _ k _ => 0)
      case atStart => exact ⟨rfl, Below.refl _ _⟩
      case round =>
        obtain ⟨rfl, hbr⟩ := hrel
        go_wp2_with fail
        go_ret
        exact ⟨ret_bool (by simp [chkRows]; omega), hbr⟩
end Go.Proofs.YtlfphfklcifgpaaDoor

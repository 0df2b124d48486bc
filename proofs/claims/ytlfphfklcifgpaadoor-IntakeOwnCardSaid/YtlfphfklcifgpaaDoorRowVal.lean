/-
  Whether a statement may be, by walking both texts; conditions: the rows lie in memory, the table of parties as laid.
-/
import Derived.Test.YtlfphfklcifgpaaDoorRowRef
namespace Go.Proofs.YtlfphfklcifgpaaDoor
open Go.RowKit Go.Own

/-- A slice of rows: none, or some that lie in memory. -/
inductive IsRows (w : World) : Value → List RowS → Prop
  | none (sp : Option Addr) (sc : Nat) (hn : sp = Option.none → sc = 0) : IsRows w (.slice sp 0 sc) []
  | some (a : Addr) (cap : Nat) (rs : List RowS) (hlen : rs.length ≤ cap) (hcap : cap ≤ maxLen) (h0 : 0 < rs.length) (h : RowsAt w a rs) : IsRows w (.slice (some a) rs.length cap) rs
def VRows (v : Value) (B : Nat) : Prop := ∀ a n c, v = .slice (some a) n c → 0 < n → a.block < B
theorem IsRows.lt {w : World} {v : Value} {rs : List RowS} (h : IsRows w v rs) : VRows v w.heap.size := by
  intro a n c e hn
  cases h with
  | none sp sc hn => cases e; omega
  | some a' cap rs hlen hcap h0 h => cases e; exact h.lt
theorem VRows.mono {v : Value} {B B' : Nat} (h : VRows v B) (hl : B ≤ B') : VRows v B' := fun a n c e hn => Nat.lt_of_lt_of_le (h a n c e hn) hl
theorem IsRows.below {B : Nat} {w w' : World} {v : Value} {rs : List RowS} (h : IsRows w v rs) (hb : Below B w w') (hB : VRows v B) : IsRows w' v rs := by
  cases h with
  | none sp sc hn => exact .none sp sc hn
  | some a cap rs hlen hcap h0 h => exact .some a cap rs hlen hcap h0 (h.below hb (hB a _ _ rfl h0))
theorem IsRows.oneCell {w : World} {v : Value} {rs : List RowS} (h : IsRows w v rs) : v.oneCell' = true := by
  cases h <;> rfl
theorem IsRows.slice {w : World} {v : Value} {rs : List RowS} (h : IsRows w v rs) : ∃ p c, v = .slice p rs.length c ∧ rs.length ≤ maxLen := by
  cases h with
  | none sp sc hn => exact ⟨_, _, rfl, by simp⟩
  | some a cap rs hlen hcap h0 h => exact ⟨_, _, rfl, by omega⟩
theorem rowsCheck_any {w : World} {v : Value} {rs : List RowS} (p : Int) (h : IsRows w v rs) (hL : Laid w) :
    Calls Tryd.prog 74 #[v, .int .i64 p] w fun e w' => e = .returned (.bool (chkRows rs p)) ∧ Below w.heap.size w w' := by
  cases h with
  | none sp sc hn => exact rowsCheck_nil sp sc p w
  | some a cap rs hlen hcap h0 h => exact rowsCheck_some rs a cap p w hlen hcap h hL
set_option maxHeartbeats 1000000 in
theorem rowsRef_nil (sp : Option Addr) (sc : Nat) (p : Int) (w : World) : Calls Tryd.prog 77 #[.slice sp 0 sc, .int .i64 p] w fun e w' => e = .returned (.bool (chkRows [] p)) ∧ Below w.heap.size w w' := by
  by_cases h0 : p < 0
  · go_enter Tryd.func77, Tryd.ntmps77
    go_wp2_with fail
    go_ret
    exact ⟨ret_bool (by simp [chkRows]; omega), (by with_reducible (repeat (first | assumption | exact Below.refl _ _ | refine Below.drew ?_ | refine below_drewN ?_ _ | refine Below.alloc ?_ (by first | (simp; done) | omega | (simp; omega)) _ | refine Below.setCell ?_ (by first | (simp; done) | omega | (simp; omega)) _ | refine Below.trans ?_ (Below.mono (by assumption) (by first | (simp; done) | omega | (simp; omega))))))⟩
  · by_cases h2 : 2 < p
    · go_enter Tryd.func77, Tryd.ntmps77
      go_wp2_with fail
      go_ret
      exact ⟨ret_bool (by simp [chkRows]; omega), (by with_reducible (repeat (first | assumption | exact Below.refl _ _ | refine Below.drew ?_ | refine below_drewN ?_ _ | refine Below.alloc ?_ (by first | (simp; done) | omega | (simp; omega)) _ | refine Below.setCell ?_ (by first | (simp; done) | omega | (simp; omega)) _ | refine Below.trans ?_ (Below.mono (by assumption) (by first | (simp; done) | omega | (simp; omega))))))⟩
    · go_enter Tryd.func77, Tryd.ntmps77
      go_wp2_with fail
      go_loopw [5] (fun k wr => k = .int .i64 0 ∧ Below w.heap.size w wr) (fun k _ => 0)
      case atStart => exact ⟨rfl, Below.refl _ _⟩
      case round =>
        obtain ⟨rfl, hbr⟩ := hrel
        go_wp2_with fail
        go_ret
        exact ⟨ret_bool (by simp [chkRows]; omega), hbr⟩
theorem rowsRef_any {w : World} {v : Value} {rs : List RowS} (p : Int) (h : IsRows w v rs) :
    Calls Tryd.prog 77 #[v, .int .i64 p] w fun e w' => e = .returned (.bool (chkRows rs p)) ∧ Below w.heap.size w w' := by
  cases h with
  | none sp sc hn => exact rowsRef_nil sp sc p w
  | some a cap rs hlen hcap h0 h => exact rowsRef_some rs a cap p w hlen hcap h

def okStmt (party seq : Int) (rs : List RowS) : Bool := decide (1 ≤ seq) && decide (seq ≤ 1073741824) && chkRows rs party

set_option maxHeartbeats 1000000 in
theorem rowsValid_any {w : World} {v : Value} {rs : List RowS} (p q : Int) (h : IsRows w v rs) (hL : Laid w) :
    Calls Tryd.prog 44 #[.agg #[.int .i64 p, .int .i64 q, v]] w fun e w' => e = .returned (.bool (okStmt p q rs)) ∧ Below w.heap.size w w' := by
  obtain ⟨sp, sc, rfl, _⟩ := h.slice
  have hC := fun w' (hb : Below w.heap.size w w') => rowsCheck_any p (h.below hb h.lt) (hL.below hb hL.1)
  clear h hL
  by_cases h1 : 1 ≤ q
  · by_cases h2 : q ≤ 1073741824
    · have HQ := Lib.hid (show okStmt p q rs = chkRows rs p by simp [okStmt, h1, h2])
      go_enter Tryd.func44, Tryd.ntmps44
      go_wp2_with (go_at_call 74; go_must ((with_reducible refine (hC _ (by with_reducible (repeat (first | assumption | exact Below.refl _ _ | refine Below.drew ?_ | refine below_drewN ?_ _ | refine Below.alloc ?_ (by first | (simp; done) | omega | (simp; omega)) _ | refine Below.setCell ?_ (by first | (simp; done) | omega | (simp; omega)) _ | refine Below.trans ?_ (Below.mono (by assumption) (by first | (simp; done) | omega | (simp; omega))))))).mono ?_); rintro e w1 ⟨rfl, hb⟩; obtain ⟨hc, hf⟩ := bcell hb; have hz := hb.size; (try simp at hz); (try have hzT := Nat.lt_of_succ_le hz); have hzA : w.heap.size < w1.heap.size := (by omega); have hzA2 := Nat.le_of_lt hzA))
      go_ret
      exact ⟨by rw [HQ.out]; rfl, (by with_reducible (repeat (first | assumption | exact Below.refl _ _ | refine Below.drew ?_ | refine below_drewN ?_ _ | refine Below.alloc ?_ (by first | (simp; done) | omega | (simp; omega)) _ | refine Below.setCell ?_ (by first | (simp; done) | omega | (simp; omega)) _ | refine Below.trans ?_ (Below.mono (by assumption) (by first | (simp; done) | omega | (simp; omega))))))⟩
    · have h2' : 1073741824 < q := by omega
      have HQ := Lib.hid (show okStmt p q rs = false by simp [okStmt]; omega)
      go_enter Tryd.func44, Tryd.ntmps44
      go_wp2_with fail
      go_ret
      exact ⟨by rw [HQ.out]; rfl, (by with_reducible (repeat (first | assumption | exact Below.refl _ _ | refine Below.drew ?_ | refine below_drewN ?_ _ | refine Below.alloc ?_ (by first | (simp; done) | omega | (simp; omega)) _ | refine Below.setCell ?_ (by first | (simp; done) | omega | (simp; omega)) _ | refine Below.trans ?_ (Below.mono (by assumption) (by first | (simp; done) | omega | (simp; omega))))))⟩
  · have h1' : q < 1 := by omega
    have HQ := Lib.hid (show okStmt p q rs = false by simp [okStmt]; omega)
    go_enter Tryd.func44, Tryd.ntmps44
    go_wp2_with fail
    go_ret
    exact ⟨by rw [HQ.out]; rfl, (by with_reducible (repeat (first | assumption | exact Below.refl _ _ | refine Below.drew ?_ | refine below_drewN ?_ _ | refine Below.alloc ?_ (by first | (simp; done) | omega | (simp; omega)) _ | refine Below.setCell ?_ (by first | (simp; done) | omega | (simp; omega)) _ | refine Below.trans ?_ (Below.mono (by assumption) (by first | (simp; done) | omega | (simp; omega))))))⟩
set_option maxHeartbeats 1000000 in
theorem refValid_any {w : World} {v : Value} {rs : List RowS} (p q : Int) (h : IsRows w v rs) :
    Calls Tryd.prog 46 #[.agg #[.int .i64 p, .int .i64 q, v]] w fun e w' => e = .returned (.bool (okStmt p q rs)) ∧ Below w.heap.size w w' := by
  obtain ⟨sp, sc, rfl, _⟩ := h.slice
  have hC := fun w' (hb : Below w.heap.size w w') => rowsRef_any p (h.below hb h.lt)
  clear h
  by_cases h1 : 0 < q
  · by_cases h2 : q ≤ 1073741824
    · have HQ := Lib.hid (show okStmt p q rs = chkRows rs p by simp [okStmt, h2]; omega)
      go_enter Tryd.func46, Tryd.ntmps46
      go_wp2_with (go_at_call 77; go_must ((with_reducible refine (hC _ (by with_reducible (repeat (first | assumption | exact Below.refl _ _ | refine Below.drew ?_ | refine below_drewN ?_ _ | refine Below.alloc ?_ (by first | (simp; done) | omega | (simp; omega)) _ | refine Below.setCell ?_ (by first | (simp; done) | omega | (simp; omega)) _ | refine Below.trans ?_ (Below.mono (by assumption) (by first | (simp; done) | omega | (simp; omega))))))).mono ?_); rintro e w1 ⟨rfl, hb⟩; obtain ⟨hc, hf⟩ := bcell hb; have hz := hb.size; (try simp at hz); (try have hzT := Nat.lt_of_succ_le hz); have hzA : w.heap.size < w1.heap.size := (by omega); have hzA2 := Nat.le_of_lt hzA))
      go_ret
      exact ⟨by rw [HQ.out]; rfl, (by with_reducible (repeat (first | assumption | exact Below.refl _ _ | refine Below.drew ?_ | refine below_drewN ?_ _ | refine Below.alloc ?_ (by first | (simp; done) | omega | (simp; omega)) _ | refine Below.setCell ?_ (by first | (simp; done) | omega | (simp; omega)) _ | refine Below.trans ?_ (Below.mono (by assumption) (by first | (simp; done) | omega | (simp; omega))))))⟩
    · have h2' : 1073741824 < q := by omega
      have HQ := Lib.hid (show okStmt p q rs = false by simp [okStmt]; omega)
      go_enter Tryd.func46, Tryd.ntmps46
      go_wp2_with fail
      go_ret
      exact ⟨by rw [HQ.out]; rfl, (by with_reducible (repeat (first | assumption | exact Below.refl _ _ | refine Below.drew ?_ | refine below_drewN ?_ _ | refine Below.alloc ?_ (by first | (simp; done) | omega | (simp; omega)) _ | refine Below.setCell ?_ (by first | (simp; done) | omega | (simp; omega)) _ | refine Below.trans ?_ (Below.mono (by assumption) (by first | (simp; done) | omega | (simp; omega))))))⟩
  · have h1' : q ≤ 0 := by omega
    have HQ := Lib.hid (show okStmt p q rs = false by simp [okStmt]; omega)
    go_enter Tryd.func46, Tryd.ntmps46
    go_wp2_with fail
    go_ret
    exact ⟨by rw [HQ.out]; rfl, (by with_reducible (repeat (first | assumption | exact Below.refl _ _ | refine Below.drew ?_ | refine below_drewN ?_ _ | refine Below.alloc ?_ (by first | (simp; done) | omega | (simp; omega)) _ | refine Below.setCell ?_ (by first | (simp; done) | omega | (simp; omega)) _ | refine Below.trans ?_ (Below.mono (by assumption) (by first | (simp; done) | omega | (simp; omega))))))⟩
end Go.Proofs.YtlfphfklcifgpaaDoor

/-
  The plain law of the desk: items proposed, approved, refused; conditions: none. No program in sight.
  What a desk has, what is left of an order's suspense, what is open, by walking the program's text; conditions: the core is one that entries come to.
  What is left of an order's suspense, less what is in a state; what is open; by walking the program's text; conditions: the core is one that entries come to. (Printed by wip/mkdkb.py.)
  A new desk, its items, what is pending, an item proposed, and refused, by walking the program's text; conditions: the core is one that entries come to.
  An item refused, an item proposed, by walking the program's text; conditions: the core is one that entries come to.
-/
import Derived.Test.YtibabfedpdoofaaGreatDoorQa1
import Derived.Test.YtibabfedpdoofaaGreatDoorQa5
import Derived.Test.YtibabfedpdoofaaGreatDoorQa7
import Derived.Test.YtibabfedpdoofaaGreatDoorQa10
namespace Go.Proofs.YtibabfedpdoofaaGreatDoor
open Go.RowKit Go.Own Go.Maps

structure ItemS where
  b : List UInt8
  o : Int
  a : Int
  s : Int
def itemC (x : ItemS) : List Value := [.string ⟨x.b.toArray⟩, .int .i64 x.o, .int .i64 x.a, .int .i64 x.s]
/-- What a desk is: its items, what was posted. -/
structure DkS where
  I : List ItemS
  P : List Pst
def heldS (s : Int) : Bool := s != 3
def writS (s : Int) : Bool := s == 2
def leftStep (o : Int) (f : Int → Bool) (n : Int × Bool) (x : ItemS) : Int × Bool := if n.2 = true then (if x.o = o then (if f x.s = true then subI n.1 x.a else n) else n) else n
def leftF (I : List ItemS) (n o : Int) (f : Int → Bool) : Int × Bool := I.foldl (leftStep o f) (n, true)
theorem leftF_snoc (I : List ItemS) (x : ItemS) (n o : Int) (f : Int → Bool) : leftF (I ++ [x]) n o f = leftStep o f (leftF I n o f) x := by simp [leftF, List.foldl_append]
theorem leftF_take {I : List ItemS} {j : Nat} (h : j < I.length) (n o : Int) (f : Int → Bool) : leftF (I.take (j + 1)) n o f = leftStep o f (leftF (I.take j) n o f) I[j] := by rw [List.take_succ_eq_append_getElem h, leftF_snoc]
theorem subI_no' {a b : Int} (h : (subI a b).2 = false) : (subI a b).1 = 0 := by
  unfold subI at h ⊢
  split
  · rename_i h1; rw [if_pos h1] at h; cases h
  · rfl
theorem leftStep_in {o : Int} {f : Int → Bool} {n : Int × Bool} {x : ItemS} (h : inI n.1 = true) (h0 : n.2 = false → n.1 = 0) : inI (leftStep o f n x).1 = true ∧ ((leftStep o f n x).2 = false → (leftStep o f n x).1 = 0) := by
  unfold leftStep
  repeat' split
  all_goals first | exact ⟨subI_in _ _, subI_no'⟩ | exact ⟨h, h0⟩
theorem leftFold_in (o : Int) (f : Int → Bool) : ∀ (I : List ItemS) (n : Int × Bool), inI n.1 = true → (n.2 = false → n.1 = 0) → inI (I.foldl (leftStep o f) n).1 = true ∧ ((I.foldl (leftStep o f) n).2 = false → (I.foldl (leftStep o f) n).1 = 0)
  | [], _, h, h0 => ⟨h, h0⟩
  | _x :: I, _, h, h0 => leftFold_in o f I _ (leftStep_in h h0).1 (leftStep_in h h0).2
theorem leftF_in (I : List ItemS) {n : Int} (o : Int) (f : Int → Bool) (h : inI n = true) : inI (leftF I n o f).1 = true := (leftFold_in o f I (n, true) h (by simp)).1
theorem leftF_no {I : List ItemS} {n : Int} {o : Int} {f : Int → Bool} (h : inI n = true) (h2 : (leftF I n o f).2 = false) : leftF I n o f = (0, false) := Prod.ext ((leftFold_in o f I (n, true) h (by simp)).2 h2) h2
theorem leftFold_stop (o : Int) (f : Int → Bool) : ∀ (I : List ItemS) (n : Int × Bool), n.2 = false → I.foldl (leftStep o f) n = n
  | [], _, _ => rfl
  | x :: I, n, h => by
    rw [List.foldl_cons]
    have e : leftStep o f n x = n := by unfold leftStep; rw [if_neg (by rw [h]; simp)]
    rw [e]
    exact leftFold_stop o f I n h
def openD (S : CoS) (I : List ItemS) (o : Int) : Int × Bool := match ordAt S.L o with
  | none => (0, false)
  | some _ => leftF I (bal S.P 1 o) o heldS
def withinB (a l : Int) : Bool := if l < 0 then decide (a < 0) && decide (l ≤ a) else decide (0 < a) && decide (a ≤ l)
def someB (n l : Int) : Bool := decide (0 < n) && decide (n ≤ l) || decide (n < 0) && decide (l ≤ n)
theorem some_within (a l : Int) : someB a l = withinB a l := by
  unfold someB withinB
  rw [Bool.eq_iff_iff]
  split <;> simp only [Bool.or_eq_true, Bool.and_eq_true, decide_eq_true_eq] <;> omega
theorem within_ne {a l : Int} (h : withinB a l = true) : a ≠ 0 ∧ (0 < a → a ≤ l) ∧ (a < 0 → l ≤ a) := by
  rw [← some_within] at h
  unfold someB at h
  simp only [Bool.or_eq_true, Bool.and_eq_true, decide_eq_true_eq] at h
  omega
def whoB (b : List UInt8) : Bool := decide (b.length ≠ 0 ∧ b.length ≤ 16)
def propE (S : CoS) (I : List ItemS) (x : ItemS) : Int := if whoB x.b = true then (match ordAt S.L x.o with
  | none => 4
  | some y => if (waitsOf y.2).2 = true then 92 else if (openD S I x.o).2 = true ∧ withinB x.a (openD S I x.o).1 = true then (if I.length < 100 then 0 else 60) else 90) else 2
def propI (S : CoS) (I : List ItemS) (x : ItemS) : List ItemS := if propE S I x = 0 then I ++ [{ x with s := 1 }] else I
def propN (S : CoS) (I : List ItemS) (x : ItemS) : Int := if propE S I x = 0 then (I.length : Int) + 1 else 0
def itemAt (I : List ItemS) (n : Int) : Option ItemS := if 1 ≤ n then I[(n - 1).toNat]? else none
theorem itemAt_no {I : List ItemS} {n : Int} (h : n < 1 ∨ (I.length : Int) < n) : itemAt I n = none := by
  unfold itemAt
  split
  · exact List.getElem?_eq_none (by omega)
  · rfl
theorem itemAt_yes {I : List ItemS} {n : Int} {j : Nat} (h : n = (j : Int) + 1) (hj : j < I.length) : itemAt I n = some I[j] := by
  subst h
  unfold itemAt
  rw [if_pos (by omega), show ((j : Int) + 1 - 1).toNat = j by omega, List.getElem?_eq_getElem hj]
theorem itemAt_some {I : List ItemS} {n : Int} {x : ItemS} (h : itemAt I n = some x) : ∃ (j : Nat) (hj : j < I.length), n = (j : Int) + 1 ∧ x = I[j] := by
  unfold itemAt at h
  split at h
  · obtain ⟨hj, hx⟩ := List.getElem?_eq_some_iff.1 h
    exact ⟨_, hj, by omega, hx.symm⟩
  · cases h
def pendE (I : List ItemS) (b : List UInt8) (n : Int) : Int := if whoB b = true then (match itemAt I n with
  | none => 4
  | some x => if x.s = 1 then 0 else 92) else 2
def wK (n : Int) : ByteArray := ⟨#[119]⟩ ++ ⟨(Lib.itoa n).toArray⟩
def wPst (n : Int) (x : ItemS) : Pst := if x.a < 0 then ⟨wK n, x.o, 1, 4, -x.a⟩ else ⟨wK n, x.o, 4, 1, x.a⟩
/-- Of an item that is pending. -/
def apprX (S : CoS) (D : DkS) (b : List UInt8) (n : Int) (x : ItemS) : Int := if x.b = b then 91 else
  if (leftF D.I (bal S.P 1 x.o) x.o writS).2 = true ∧ withinB x.a (leftF D.I (bal S.P 1 x.o) x.o writS).1 = true then (if x.a = -9223372036854775808 then 90 else postE D.P (wPst n x)) else 90
def apprE (S : CoS) (D : DkS) (b : List UInt8) (n : Int) : Int := if pendE D.I b n = 0 then (match itemAt D.I n with
  | none => 4
  | some x => apprX S D b n x) else pendE D.I b n
def setI (I : List ItemS) (n : Int) (x : ItemS) (s : Int) : List ItemS := I.set (n - 1).toNat { x with s := s }
def apprD (S : CoS) (D : DkS) (b : List UInt8) (n : Int) : DkS := if apprE S D b n = 0 then (match itemAt D.I n with
  | none => D
  | some x => ⟨setI D.I n x 2, postL D.P (wPst n x)⟩) else D
def refuI (I : List ItemS) (b : List UInt8) (n : Int) : List ItemS := if pendE I b n = 0 then (match itemAt I n with
  | none => I
  | some x => setI I n x 3) else I
theorem pend_zero {I : List ItemS} {b : List UInt8} {n : Int} (h : pendE I b n = 0) : whoB b = true ∧ ∃ (j : Nat) (hj : j < I.length), n = (j : Int) + 1 ∧ I[j].s = 1 ∧ itemAt I n = some I[j] := by
  unfold pendE at h
  split at h
  · rename_i h1
    refine ⟨h1, ?_⟩
    split at h
    · cases h
    · rename_i x hx
      split at h
      · rename_i hs
        obtain ⟨j, hj, hn, rfl⟩ := itemAt_some hx
        exact ⟨j, hj, hn, hs, hx⟩
      · cases h
  · cases h
end Go.Proofs.YtibabfedpdoofaaGreatDoor
namespace Go.Proofs.YtibabfedpdoofaaGreatDoor
open Go.RowKit Go.Own Go.Maps

/-- Where a desk lies: its block, its items' slice, the books' block, slice and maps. -/
structure DkA where
  t : Nat
  v : Value
  k : Nat
  u : Value
  pm : Nat
  bm : Nat
structure DkAt (w : World) (x : DkA) (D : DkS) : Prop where
  box : w.heap[x.t]? = some (.cells [x.v, .pointer (some ⟨x.k, 0, none⟩)].toArray 96)
  row : IsL w 4 x.v (D.I.map itemC)
  bk : BkAt w x.k x.u x.pm x.bm D.P
theorem DkAt.below {w w' : World} {x : DkA} {D : DkS} (h : DkAt w x D) (hb : Below w.heap.size w w') : DkAt w' x D :=
  ⟨by rw [hb.block _ (old_lt h.box)]; exact h.box, h.row.below hb h.row.lt, h.bk.below hb⟩
theorem itemC_len (l : List ItemS) : ∀ x ∈ l.map itemC, x.length = 4 := fun x hx => by
  obtain ⟨y, _, rfl⟩ := List.mem_map.1 hx
  rfl
def dkPs (x : DkA) (D : DkS) : List Ent := [box x.t (.cells [x.v, .pointer (some ⟨x.k, 0, none⟩)].toArray 96), row 82 4 x.v (D.I.map itemC), bkE x.k x.u x.pm x.bm D.P]
theorem Own.dkAt {W w : World} {L : List Ent} {x : DkA} {D : DkS} (h : Own W w L) (hm : ∀ e ∈ dkPs x D, e ∈ L) : DkAt w x D := by
  obtain ⟨h4, _⟩ := h.has _ (hm _ (.tail _ (.tail _ (.head _))))
  exact ⟨h.has _ (hm _ (.head _)), isL_of_owns (itemC_len _) (h.has _ (hm _ (.tail _ (.head _)))), ⟨h4 _ (.head _), h4 _ (.tail _ (.head _)), h4 _ (.tail _ (.tail _ (.head _))), h4 _ (.tail _ (.tail _ (.tail _ (.head _))))⟩⟩

set_option maxHeartbeats 4000000 in
theorem dkNone_any {w : World} {x : DkA} {D : DkS} (h : DkAt w x D) : Calls Tryz.prog 101 #[.pointer (some ⟨x.t, 0, none⟩)] w fun e w' => e = .returned (.bool false) ∧ Below w.heap.size w w' := by
  have HO := Own.start w
  have h1 := old_cell h.box 1 rfl
  have hlt := old_lt h.box
  clear h
  go_enter Tryz.func101, Tryz.ntmps101
  go_wp2_with (first | go_big_skip | ((with_reducible apply wpList_loadOld1 HO); exact rfl; exact rfl; exact hlt; exact h1; infer_instance; exact rfl; (simp only [Act.put, zA, zB, zC])))
  go_ret
  exact ⟨rfl, HO.grown⟩
set_option maxHeartbeats 4000000 in
theorem dkNoneNil_any (w : World) : Calls Tryz.prog 101 #[.pointer none] w fun e w' => e = .returned (.bool true) ∧ Below w.heap.size w w' := by
  have HO := Own.start w
  go_enter Tryz.func101, Tryz.ntmps101
  go_wp2_with fail
  go_ret
  exact ⟨rfl, HO.grown⟩
set_option maxHeartbeats 4000000 in
theorem dkNoneNo_any {w : World} {t : Nat} {v : Value} (h : w.heap[t]? = some (.cells [v, .pointer none].toArray 96)) : Calls Tryz.prog 101 #[.pointer (some ⟨t, 0, none⟩)] w fun e w' => e = .returned (.bool true) ∧ Below w.heap.size w w' := by
  have HO := Own.start w
  have h1 := old_cell h 1 rfl
  have hlt := old_lt h
  clear h
  go_enter Tryz.func101, Tryz.ntmps101
  go_wp2_with (first | go_big_skip | ((with_reducible apply wpList_loadOld1 HO); exact rfl; exact rfl; exact hlt; exact h1; infer_instance; exact rfl; (simp only [Act.put, zA, zB, zC])))
  go_ret
  exact ⟨rfl, HO.grown⟩

set_option maxHeartbeats 4000000 in
theorem held_any (s : Int) (w : World) : Calls Tryz.prog 103 #[.int .i64 s] w fun e w' => e = .returned (.bool (heldS s)) ∧ Below w.heap.size w w' := by
  have HO := Own.start w
  go_enter Tryz.func103, Tryz.ntmps103
  go_wp2_with fail
  go_ret
  exact ⟨rfl, HO.grown⟩
set_option maxHeartbeats 4000000 in
theorem written_any (s : Int) (w : World) : Calls Tryz.prog 108 #[.int .i64 s] w fun e w' => e = .returned (.bool (writS s)) ∧ Below w.heap.size w w' := by
  have HO := Own.start w
  go_enter Tryz.func108, Tryz.ntmps108
  go_wp2_with fail
  go_ret
  exact ⟨rfl, HO.grown⟩
set_option maxHeartbeats 4000000 in
theorem within_any (a l : Int) (w : World) : Calls Tryz.prog 106 #[.int .i64 a, .int .i64 l] w fun e w' => e = .returned (.bool (withinB a l)) ∧ Below w.heap.size w w' := by
  have HO := Own.start w
  unfold withinB
  by_cases h : l < 0
  · rw [if_pos h]
    go_enter Tryz.func106, Tryz.ntmps106
    go_wp2_with fail
    all_goals go_ret
    all_goals refine ⟨ret_bool ?_, HO.grown⟩
    all_goals first | (rw [Bool.eq_iff_iff]; done) | (rw [Bool.eq_iff_iff]; simp; done) | (rw [Bool.eq_iff_iff]; simp; omega)
  · rw [if_neg h]
    go_enter Tryz.func106, Tryz.ntmps106
    go_wp2_with fail
    all_goals go_ret
    all_goals refine ⟨ret_bool ?_, HO.grown⟩
    all_goals first | (rw [Bool.eq_iff_iff]; done) | (rw [Bool.eq_iff_iff]; simp; done) | (rw [Bool.eq_iff_iff]; simp; omega)
set_option maxHeartbeats 4000000 in
theorem who_any (b : List UInt8) (hb : b.length ≤ maxLen) (w : World) : Calls Tryz.prog 104 #[.string ⟨b.toArray⟩] w fun e w' => e = .returned (.bool (whoB b)) ∧ Below w.heap.size w w' := by
  have HO := Own.start w
  unfold whoB
  unfold maxLen at hb
  rcases b with _ | ⟨c, b⟩
  · go_enter Tryz.func104, Tryz.ntmps104
    go_wp2_with fail
    go_ret
    exact ⟨ret_bool (by simp), HO.grown⟩
  · go_enter Tryz.func104, Tryz.ntmps104
    go_wp2_with fail
    all_goals go_ret
    all_goals refine ⟨ret_bool ?_, HO.grown⟩
    all_goals first | (rw [Bool.eq_iff_iff]; done) | (rw [Bool.eq_iff_iff]; simp; done) | (rw [Bool.eq_iff_iff]; simp; omega)
set_option maxHeartbeats 4000000 in
theorem ended_any (o : OrdS) (s : D6) (w : World) : Calls Tryz.prog 105 #[sagaV o s] w fun e w' => e = .returned (.bool (!(waitsOf s).2)) ∧ Below w.heap.size w w' := by
  have HO := Own.start w
  have WT := fun w => waits_any o s w
  unfold sagaV at WT
  simp only [sagaV]
  go_enter Tryz.func105, Tryz.ntmps105
  go_wp2_with (first | go_big_skip | (first | go_big_skip | ((with_reducible apply wpList_loadAll HO); exact rfl; exact rfl; (repeat (with_reducible (first | exact At.head _ | apply At.tail))); infer_instance; exact rfl; exact rfl; (simp only [Act.put, zA, zB, zC])) | ((with_reducible apply wpList_loadOne HO); exact rfl; exact rfl; (repeat (with_reducible (first | exact At.head _ | apply At.tail))); exact rfl; infer_instance; exact rfl; (simp only [Act.put, zA, zB, zC]))) | (first | ((with_reducible apply wpList_boxAgg _ HO rfl); exact rfl; exact rfl; exact rfl; clear HO; intro b1 w HO; (simp only [Act.put, zA, zB, zC])) | ((with_reducible apply wpList_allocAgg _ HO rfl); exact rfl; infer_instance; exact rfl; clear HO; intro b1 w HO; (simp only [Act.put, zA, zB, zC]))) | (go_at_call 98; go_must ((with_reducible refine (WT _).mono ?_); rintro e w ⟨rfl, hb⟩; replace HO := HO.call hb; clear hb)))
  go_ret
  exact ⟨rfl, HO.grown⟩
end Go.Proofs.YtibabfedpdoofaaGreatDoor
namespace Go.Proofs.YtibabfedpdoofaaGreatDoor
open Go.RowKit Go.Own Go.Maps

theorem leftStep_no {o : Int} {f : Int → Bool} {n : Int} {x : ItemS} : leftStep o f (n, false) x = (n, false) := by unfold leftStep; rw [if_neg (by simp)]
theorem leftStep_other {o : Int} {f : Int → Bool} {n : Int} {x : ItemS} (h : x.o ≠ o) : leftStep o f (n, true) x = (n, true) := by unfold leftStep; rw [if_pos rfl, if_neg h]
theorem leftStep_f {o : Int} {f : Int → Bool} {n : Int} {x : ItemS} (h : x.o = o) (hf : f x.s = false) : leftStep o f (n, true) x = (n, true) := by unfold leftStep; rw [if_pos rfl, if_pos h, if_neg (by rw [hf]; simp)]
theorem leftStep_t {o : Int} {f : Int → Bool} {n : Int} {x : ItemS} (h : x.o = o) (hf : f x.s = true) : leftStep o f (n, true) x = subI n x.a := by unfold leftStep; rw [if_pos rfl, if_pos h, if_pos hf]
/-- What is known of a desk's items. -/
def ItOk (I : List ItemS) : Prop := ∀ x ∈ I, inI x.o = true ∧ inI x.a = true ∧ inI x.s = true ∧ x.b.length ≤ maxLen

set_option maxHeartbeats 8000000 in
set_option maxRecDepth 100000 in
theorem dkLeftHeld_any {W : World} {x : DkA} {D : DkS} {a : CoA} {S : CoS} {i : InA} {A : InS} (h : DkAt W x D) (hc : CoAt W a S i A) (hI : ItOk D.I) (hB : Bk S.P) {o : Int} (ho : inI o = true) :
    Calls Tryz.prog 102 #[.pointer (some ⟨x.t, 0, none⟩), .pointer (some ⟨a.c, 0, none⟩), .int .i64 o, .func (.func 103) #[] #[]] W fun e w' => e = .returned (.tuple #[.int .i64 (leftF D.I (bal S.P 1 o) o heldS).1, .bool (leftF D.I (bal S.P 1 o) o heldS).2]) ∧ Below W.heap.size W w' := by
  have HO := Own.start W
  have B := fun w' (hb : Below W.heap.size W w') => coBal_any (hc.below hb) (n := 1) rfl ho
  have hin := hB.bal_in 1 o
  have HF := Lib.hid (fun s w => held_any s w)
  have HI := Lib.hid hI
  obtain ⟨p, c, hv, hmx⟩ := h.row.slice
  rw [List.length_map] at hv hmx
  have HR := Lib.hid h.row
  have h0 := old_cell h.box 0 rfl
  have hlt := old_lt h.box
  have hmx' : (D.I.length : Int) ≤ 9223372036854775807 := by unfold maxLen at hmx; omega
  rw [hv] at h0
  generalize ha : x.v = av at *
  subst hv
  clear h ha hc hB hI
  generalize bal S.P 1 o = n0 at *
  generalize hg : leftF D.I n0 o heldS = g0
  replace hg := Lib.hid hg
  replace hin := Lib.hid hin
  go_enter Tryz.func102, Tryz.ntmps102
  go_wp2_with (first | go_big_skip | ((with_reducible apply wpList_loadOld1 HO); exact rfl; exact rfl; exact hlt; exact h0; infer_instance; exact rfl; (simp only [Act.put, zA, zB, zC])) | (go_at_call 50; go_must ((with_reducible refine (B _ HO.grown).mono ?_); rintro e w ⟨rfl, hb⟩; replace HO := HO.call hb; clear hb)))
  go_loopw [8, 9, 20] (fun nv kv iv wr => ∃ j : Nat, j ≤ D.I.length ∧ iv = .int .i64 (j : Int) ∧ nv = .int .i64 (leftF (D.I.take j) n0 o heldS).1 ∧ kv = .bool (leftF (D.I.take j) n0 o heldS).2 ∧ Own W wr []) (fun _ _ iv _ => D.I.length - (intOf iv).toNat)
  case atStart => exact ⟨0, by omega, rfl, rfl, rfl, HO⟩
  case round =>
    clear HO
    obtain ⟨j, hj, rfl, rfl, rfl, HO⟩ := hrel
    by_cases hjl : j < D.I.length
    · have hjI : (j : Int) < (D.I.length : Int) := by omega
      obtain ⟨b, rfl, hst⟩ := oldAt HR.out rfl hjl
      have hsn := Lib.hid (leftF_take hjl n0 o heldS)
      have hn := leftF_in (D.I.take j) o heldS hin.out
      obtain ⟨h1, h2, h3, h4⟩ := HI.out _ (List.getElem_mem hjl)
      generalize leftF (D.I.take j) n0 o heldS = m at *
      generalize D.I[j] = y at *
      obtain ⟨yb, yo, ya, ys⟩ := y
      obtain ⟨n, ok⟩ := m
      unfold itemC at hst
      replace hst := Lib.hid hst
      simp only at h1 h2 h3 h4 hn
      have SB := fun w => mSub_any hn h2 w
      clear h1 h2 h3 h4 hn
      cases ok
      · clear SB
        go_wp2_with (first | go_big_skip | (first | go_big_skip | ((with_reducible apply wpList_loadAll HO); exact rfl; exact rfl; (repeat (with_reducible (first | exact At.head _ | apply At.tail))); infer_instance; exact rfl; exact rfl; (simp only [Act.put, zA, zB, zC])) | ((with_reducible apply wpList_loadOne HO); exact rfl; exact rfl; (repeat (with_reducible (first | exact At.head _ | apply At.tail))); exact rfl; infer_instance; exact rfl; (simp only [Act.put, zA, zB, zC]))) | ((with_reducible apply wpList_storeAll HO); exact rfl; exact rfl; exact rfl; (repeat (with_reducible (first | exact At.head _ | apply At.tail))); infer_instance; exact rfl; exact rfl; exact rfl; exact rfl; clear HO; intro w HO; (simp only [Act.put])) | (first | ((with_reducible apply wpList_boxAgg _ HO rfl); exact rfl; exact rfl; exact rfl; clear HO; intro b6 w HO; (simp only [Act.put, zA, zB, zC])) | ((with_reducible apply wpList_allocAgg _ HO rfl); exact rfl; infer_instance; exact rfl; clear HO; intro b6 w HO; (simp only [Act.put, zA, zB, zC]))) | ((with_reducible apply wpList_loadAt HO); exact rfl; exact rfl; exact (fun w' h1 => hst.out w' h1.grown); infer_instance; exact rfl; exact rfl; (simp only [Act.put, zA, zB, zC])) | (go_at_call 103; go_must ((with_reducible refine (HF.out _ _).mono ?_); rintro e w ⟨rfl, hb⟩; replace HO := HO.call hb; clear hb)) | (go_at_call 49; go_must ((with_reducible refine (SB _).mono ?_); rintro e w ⟨rfl, hb⟩; replace HO := HO.call hb; clear hb)))
        replace HO := HO.tail
        go_roundw
        case rel => exact ⟨j + 1, by omega, by go_num, by rw [hsn.out, leftStep_no (x := ⟨yb, yo, ya, ys⟩)], by rw [hsn.out, leftStep_no (x := ⟨yb, yo, ya, ys⟩)], HO⟩
        case measure => simp [intOf] <;> omega
      by_cases hz : yo = o
      · subst hz
        cases hf : heldS ys
        · clear SB
          replace HF := Lib.hid (fun w => hf ▸ HF.out ys w)
          go_wp2_with (first | go_big_skip | (first | go_big_skip | ((with_reducible apply wpList_loadAll HO); exact rfl; exact rfl; (repeat (with_reducible (first | exact At.head _ | apply At.tail))); infer_instance; exact rfl; exact rfl; (simp only [Act.put, zA, zB, zC])) | ((with_reducible apply wpList_loadOne HO); exact rfl; exact rfl; (repeat (with_reducible (first | exact At.head _ | apply At.tail))); exact rfl; infer_instance; exact rfl; (simp only [Act.put, zA, zB, zC]))) | ((with_reducible apply wpList_storeAll HO); exact rfl; exact rfl; exact rfl; (repeat (with_reducible (first | exact At.head _ | apply At.tail))); infer_instance; exact rfl; exact rfl; exact rfl; exact rfl; clear HO; intro w HO; (simp only [Act.put])) | (first | ((with_reducible apply wpList_boxAgg _ HO rfl); exact rfl; exact rfl; exact rfl; clear HO; intro b6 w HO; (simp only [Act.put, zA, zB, zC])) | ((with_reducible apply wpList_allocAgg _ HO rfl); exact rfl; infer_instance; exact rfl; clear HO; intro b6 w HO; (simp only [Act.put, zA, zB, zC]))) | ((with_reducible apply wpList_loadAt HO); exact rfl; exact rfl; exact (fun w' h1 => hst.out w' h1.grown); infer_instance; exact rfl; exact rfl; (simp only [Act.put, zA, zB, zC])) | (go_at_call 103; go_must ((with_reducible refine (HF.out _).mono ?_); rintro e w ⟨rfl, hb⟩; replace HO := HO.call hb; clear hb)) | (go_at_call 49; go_must ((with_reducible refine (SB _).mono ?_); rintro e w ⟨rfl, hb⟩; replace HO := HO.call hb; clear hb)))
          replace HO := HO.tail
          go_roundw
          case rel => exact ⟨j + 1, by omega, by go_num, by rw [hsn.out, leftStep_f (x := ⟨yb, yo, ya, ys⟩) rfl hf], by rw [hsn.out, leftStep_f (x := ⟨yb, yo, ya, ys⟩) rfl hf], HO⟩
          case measure => simp [intOf] <;> omega
        · replace HF := Lib.hid (fun w => hf ▸ HF.out ys w)
          go_wp2_with (first | go_big_skip | (first | go_big_skip | ((with_reducible apply wpList_loadAll HO); exact rfl; exact rfl; (repeat (with_reducible (first | exact At.head _ | apply At.tail))); infer_instance; exact rfl; exact rfl; (simp only [Act.put, zA, zB, zC])) | ((with_reducible apply wpList_loadOne HO); exact rfl; exact rfl; (repeat (with_reducible (first | exact At.head _ | apply At.tail))); exact rfl; infer_instance; exact rfl; (simp only [Act.put, zA, zB, zC]))) | ((with_reducible apply wpList_storeAll HO); exact rfl; exact rfl; exact rfl; (repeat (with_reducible (first | exact At.head _ | apply At.tail))); infer_instance; exact rfl; exact rfl; exact rfl; exact rfl; clear HO; intro w HO; (simp only [Act.put])) | (first | ((with_reducible apply wpList_boxAgg _ HO rfl); exact rfl; exact rfl; exact rfl; clear HO; intro b6 w HO; (simp only [Act.put, zA, zB, zC])) | ((with_reducible apply wpList_allocAgg _ HO rfl); exact rfl; infer_instance; exact rfl; clear HO; intro b6 w HO; (simp only [Act.put, zA, zB, zC]))) | ((with_reducible apply wpList_loadAt HO); exact rfl; exact rfl; exact (fun w' h1 => hst.out w' h1.grown); infer_instance; exact rfl; exact rfl; (simp only [Act.put, zA, zB, zC])) | (go_at_call 103; go_must ((with_reducible refine (HF.out _).mono ?_); rintro e w ⟨rfl, hb⟩; replace HO := HO.call hb; clear hb)) | (go_at_call 49; go_must ((with_reducible refine (SB _).mono ?_); rintro e w ⟨rfl, hb⟩; replace HO := HO.call hb; clear hb)))
          replace HO := HO.tail
          go_roundw
          case rel => exact ⟨j + 1, by omega, by go_num, by rw [hsn.out, leftStep_t (x := ⟨yb, yo, ya, ys⟩) rfl hf], by rw [hsn.out, leftStep_t (x := ⟨yb, yo, ya, ys⟩) rfl hf], HO⟩
          case measure => simp [intOf] <;> omega
      · have hD : (yo == o) = false := by simpa using hz
        clear SB
        go_wp2_with (first | go_big_skip | (first | go_big_skip | ((with_reducible apply wpList_loadAll HO); exact rfl; exact rfl; (repeat (with_reducible (first | exact At.head _ | apply At.tail))); infer_instance; exact rfl; exact rfl; (simp only [Act.put, zA, zB, zC])) | ((with_reducible apply wpList_loadOne HO); exact rfl; exact rfl; (repeat (with_reducible (first | exact At.head _ | apply At.tail))); exact rfl; infer_instance; exact rfl; (simp only [Act.put, zA, zB, zC]))) | ((with_reducible apply wpList_storeAll HO); exact rfl; exact rfl; exact rfl; (repeat (with_reducible (first | exact At.head _ | apply At.tail))); infer_instance; exact rfl; exact rfl; exact rfl; exact rfl; clear HO; intro w HO; (simp only [Act.put])) | (first | ((with_reducible apply wpList_boxAgg _ HO rfl); exact rfl; exact rfl; exact rfl; clear HO; intro b6 w HO; (simp only [Act.put, zA, zB, zC])) | ((with_reducible apply wpList_allocAgg _ HO rfl); exact rfl; infer_instance; exact rfl; clear HO; intro b6 w HO; (simp only [Act.put, zA, zB, zC]))) | ((with_reducible apply wpList_loadAt HO); exact rfl; exact rfl; exact (fun w' h1 => hst.out w' h1.grown); infer_instance; exact rfl; exact rfl; (simp only [Act.put, zA, zB, zC])) | (go_at_call 103; go_must ((with_reducible refine (HF.out _ _).mono ?_); rintro e w ⟨rfl, hb⟩; replace HO := HO.call hb; clear hb)) | (go_at_call 49; go_must ((with_reducible refine (SB _).mono ?_); rintro e w ⟨rfl, hb⟩; replace HO := HO.call hb; clear hb)))
        replace HO := HO.tail
        go_roundw
        case rel => exact ⟨j + 1, by omega, by go_num, by rw [hsn.out, leftStep_other (x := ⟨yb, yo, ya, ys⟩) hz], by rw [hsn.out, leftStep_other (x := ⟨yb, yo, ya, ys⟩) hz], HO⟩
        case measure => simp [intOf] <;> omega
    · obtain rfl : j = D.I.length := by omega
      rw [List.take_length]
      rw [hg.out]
      go_wp2_with fail
      go_ret2
      exact ⟨rfl, HO.grown⟩

set_option maxHeartbeats 8000000 in
set_option maxRecDepth 100000 in
theorem dkLeftWrit_any {W : World} {x : DkA} {D : DkS} {a : CoA} {S : CoS} {i : InA} {A : InS} (h : DkAt W x D) (hc : CoAt W a S i A) (hI : ItOk D.I) (hB : Bk S.P) {o : Int} (ho : inI o = true) :
    Calls Tryz.prog 102 #[.pointer (some ⟨x.t, 0, none⟩), .pointer (some ⟨a.c, 0, none⟩), .int .i64 o, .func (.func 108) #[] #[]] W fun e w' => e = .returned (.tuple #[.int .i64 (leftF D.I (bal S.P 1 o) o writS).1, .bool (leftF D.I (bal S.P 1 o) o writS).2]) ∧ Below W.heap.size W w' := by
  have HO := Own.start W
  have B := fun w' (hb : Below W.heap.size W w') => coBal_any (hc.below hb) (n := 1) rfl ho
  have hin := hB.bal_in 1 o
  have HF := Lib.hid (fun s w => written_any s w)
  have HI := Lib.hid hI
  obtain ⟨p, c, hv, hmx⟩ := h.row.slice
  rw [List.length_map] at hv hmx
  have HR := Lib.hid h.row
  have h0 := old_cell h.box 0 rfl
  have hlt := old_lt h.box
  have hmx' : (D.I.length : Int) ≤ 9223372036854775807 := by unfold maxLen at hmx; omega
  rw [hv] at h0
  generalize ha : x.v = av at *
  subst hv
  clear h ha hc hB hI
  generalize bal S.P 1 o = n0 at *
  generalize hg : leftF D.I n0 o writS = g0
  replace hg := Lib.hid hg
  replace hin := Lib.hid hin
  go_enter Tryz.func102, Tryz.ntmps102
  go_wp2_with (first | go_big_skip | ((with_reducible apply wpList_loadOld1 HO); exact rfl; exact rfl; exact hlt; exact h0; infer_instance; exact rfl; (simp only [Act.put, zA, zB, zC])) | (go_at_call 50; go_must ((with_reducible refine (B _ HO.grown).mono ?_); rintro e w ⟨rfl, hb⟩; replace HO := HO.call hb; clear hb)))
  go_loopw [8, 9, 20] (fun nv kv iv wr => ∃ j : Nat, j ≤ D.I.length ∧ iv = .int .i64 (j : Int) ∧ nv = .int .i64 (leftF (D.I.take j) n0 o writS).1 ∧ kv = .bool (leftF (D.I.take j) n0 o writS).2 ∧ Own W wr []) (fun _ _ iv _ => D.I.length - (intOf iv).toNat)
  case atStart => exact ⟨0, by omega, rfl, rfl, rfl, HO⟩
  case round =>
    clear HO
    obtain ⟨j, hj, rfl, rfl, rfl, HO⟩ := hrel
    by_cases hjl : j < D.I.length
    · have hjI : (j : Int) < (D.I.length : Int) := by omega
      obtain ⟨b, rfl, hst⟩ := oldAt HR.out rfl hjl
      have hsn := Lib.hid (leftF_take hjl n0 o writS)
      have hn := leftF_in (D.I.take j) o writS hin.out
      obtain ⟨h1, h2, h3, h4⟩ := HI.out _ (List.getElem_mem hjl)
      generalize leftF (D.I.take j) n0 o writS = m at *
      generalize D.I[j] = y at *
      obtain ⟨yb, yo, ya, ys⟩ := y
      obtain ⟨n, ok⟩ := m
      unfold itemC at hst
      replace hst := Lib.hid hst
      simp only at h1 h2 h3 h4 hn
      have SB := fun w => mSub_any hn h2 w
      clear h1 h2 h3 h4 hn
      cases ok
      · clear SB
        go_wp2_with (first | go_big_skip | (first | go_big_skip | ((with_reducible apply wpList_loadAll HO); exact rfl; exact rfl; (repeat (with_reducible (first | exact At.head _ | apply At.tail))); infer_instance; exact rfl; exact rfl; (simp only [Act.put, zA, zB, zC])) | ((with_reducible apply wpList_loadOne HO); exact rfl; exact rfl; (repeat (with_reducible (first | exact At.head _ | apply At.tail))); exact rfl; infer_instance; exact rfl; (simp only [Act.put, zA, zB, zC]))) | ((with_reducible apply wpList_storeAll HO); exact rfl; exact rfl; exact rfl; (repeat (with_reducible (first | exact At.head _ | apply At.tail))); infer_instance; exact rfl; exact rfl; exact rfl; exact rfl; clear HO; intro w HO; (simp only [Act.put])) | (first | ((with_reducible apply wpList_boxAgg _ HO rfl); exact rfl; exact rfl; exact rfl; clear HO; intro b6 w HO; (simp only [Act.put, zA, zB, zC])) | ((with_reducible apply wpList_allocAgg _ HO rfl); exact rfl; infer_instance; exact rfl; clear HO; intro b6 w HO; (simp only [Act.put, zA, zB, zC]))) | ((with_reducible apply wpList_loadAt HO); exact rfl; exact rfl; exact (fun w' h1 => hst.out w' h1.grown); infer_instance; exact rfl; exact rfl; (simp only [Act.put, zA, zB, zC])) | (go_at_call 108; go_must ((with_reducible refine (HF.out _ _).mono ?_); rintro e w ⟨rfl, hb⟩; replace HO := HO.call hb; clear hb)) | (go_at_call 49; go_must ((with_reducible refine (SB _).mono ?_); rintro e w ⟨rfl, hb⟩; replace HO := HO.call hb; clear hb)))
        replace HO := HO.tail
        go_roundw
        case rel => exact ⟨j + 1, by omega, by go_num, by rw [hsn.out, leftStep_no (x := ⟨yb, yo, ya, ys⟩)], by rw [hsn.out, leftStep_no (x := ⟨yb, yo, ya, ys⟩)], HO⟩
        case measure => simp [intOf] <;> omega
      by_cases hz : yo = o
      · subst hz
        cases hf : writS ys
        · clear SB
          replace HF := Lib.hid (fun w => hf ▸ HF.out ys w)
          go_wp2_with (first | go_big_skip | (first | go_big_skip | ((with_reducible apply wpList_loadAll HO); exact rfl; exact rfl; (repeat (with_reducible (first | exact At.head _ | apply At.tail))); infer_instance; exact rfl; exact rfl; (simp only [Act.put, zA, zB, zC])) | ((with_reducible apply wpList_loadOne HO); exact rfl; exact rfl; (repeat (with_reducible (first | exact At.head _ | apply At.tail))); exact rfl; infer_instance; exact rfl; (simp only [Act.put, zA, zB, zC]))) | ((with_reducible apply wpList_storeAll HO); exact rfl; exact rfl; exact rfl; (repeat (with_reducible (first | exact At.head _ | apply At.tail))); infer_instance; exact rfl; exact rfl; exact rfl; exact rfl; clear HO; intro w HO; (simp only [Act.put])) | (first | ((with_reducible apply wpList_boxAgg _ HO rfl); exact rfl; exact rfl; exact rfl; clear HO; intro b6 w HO; (simp only [Act.put, zA, zB, zC])) | ((with_reducible apply wpList_allocAgg _ HO rfl); exact rfl; infer_instance; exact rfl; clear HO; intro b6 w HO; (simp only [Act.put, zA, zB, zC]))) | ((with_reducible apply wpList_loadAt HO); exact rfl; exact rfl; exact (fun w' h1 => hst.out w' h1.grown); infer_instance; exact rfl; exact rfl; (simp only [Act.put, zA, zB, zC])) | (go_at_call 108; go_must ((with_reducible refine (HF.out _).mono ?_); rintro e w ⟨rfl, hb⟩; replace HO := HO.call hb; clear hb)) | (go_at_call 49; go_must ((with_reducible refine (SB _).mono ?_); rintro e w ⟨rfl, hb⟩; replace HO := HO.call hb; clear hb)))
          replace HO := HO.tail
          go_roundw
          case rel => exact ⟨j + 1, by omega, by go_num, by rw [hsn.out, leftStep_f (x := ⟨yb, yo, ya, ys⟩) rfl hf], by rw [hsn.out, leftStep_f (x := ⟨yb, yo, ya, ys⟩) rfl hf], HO⟩
          case measure => simp [intOf] <;> omega
        · replace HF := Lib.hid (fun w => hf ▸ HF.out ys w)
          go_wp2_with (first | go_big_skip | (first | go_big_skip | ((with_reducible apply wpList_loadAll HO); exact rfl; exact rfl; (repeat (with_reducible (first | exact At.head _ | apply At.tail))); infer_instance; exact rfl; exact rfl; (simp only [Act.put, zA, zB, zC])) | ((with_reducible apply wpList_loadOne HO); exact rfl; exact rfl; (repeat (with_reducible (first | exact At.head _ | apply At.tail))); exact rfl; infer_instance; exact rfl; (simp only [Act.put, zA, zB, zC]))) | ((with_reducible apply wpList_storeAll HO); exact rfl; exact rfl; exact rfl; (repeat (with_reducible (first | exact At.head _ | apply At.tail))); infer_instance; exact rfl; exact rfl; exact rfl; exact rfl; clear HO; intro w HO; (simp only [Act.put])) | (first | ((with_reducible apply wpList_boxAgg _ HO rfl); exact rfl; exact rfl; exact rfl; clear HO; intro b6 w HO; (simp only [Act.put, zA, zB, zC])) | ((with_reducible apply wpList_allocAgg _ HO rfl); exact rfl; infer_instance; exact rfl; clear HO; intro b6 w HO; (simp only [Act.put, zA, zB, zC]))) | ((with_reducible apply wpList_loadAt HO); exact rfl; exact rfl; exact (fun w' h1 => hst.out w' h1.grown); infer_instance; exact rfl; exact rfl; (simp only [Act.put, zA, zB, zC])) | (go_at_call 108; go_must ((with_reducible refine (HF.out _).mono ?_); rintro e w ⟨rfl, hb⟩; replace HO := HO.call hb; clear hb)) | (go_at_call 49; go_must ((with_reducible refine (SB _).mono ?_); rintro e w ⟨rfl, hb⟩; replace HO := HO.call hb; clear hb)))
          replace HO := HO.tail
          go_roundw
          case rel => exact ⟨j + 1, by omega, by go_num, by rw [hsn.out, leftStep_t (x := ⟨yb, yo, ya, ys⟩) rfl hf], by rw [hsn.out, leftStep_t (x := ⟨yb, yo, ya, ys⟩) rfl hf], HO⟩
          case measure => simp [intOf] <;> omega
      · have hD : (yo == o) = false := by simpa using hz
        clear SB
        go_wp2_with (first | go_big_skip | (first | go_big_skip | ((with_reducible apply wpList_loadAll HO); exact rfl; exact rfl; (repeat (with_reducible (first | exact At.head _ | apply At.tail))); infer_instance; exact rfl; exact rfl; (simp only [Act.put, zA, zB, zC])) | ((with_reducible apply wpList_loadOne HO); exact rfl; exact rfl; (repeat (with_reducible (first | exact At.head _ | apply At.tail))); exact rfl; infer_instance; exact rfl; (simp only [Act.put, zA, zB, zC]))) | ((with_reducible apply wpList_storeAll HO); exact rfl; exact rfl; exact rfl; (repeat (with_reducible (first | exact At.head _ | apply At.tail))); infer_instance; exact rfl; exact rfl; exact rfl; exact rfl; clear HO; intro w HO; (simp only [Act.put])) | (first | ((with_reducible apply wpList_boxAgg _ HO rfl); exact rfl; exact rfl; exact rfl; clear HO; intro b6 w HO; (simp only [Act.put, zA, zB, zC])) | ((with_reducible apply wpList_allocAgg _ HO rfl); exact rfl; infer_instance; exact rfl; clear HO; intro b6 w HO; (simp only [Act.put, zA, zB, zC]))) | ((with_reducible apply wpList_loadAt HO); exact rfl; exact rfl; exact (fun w' h1 => hst.out w' h1.grown); infer_instance; exact rfl; exact rfl; (simp only [Act.put, zA, zB, zC])) | (go_at_call 108; go_must ((with_reducible refine (HF.out _ _).mono ?_); rintro e w ⟨rfl, hb⟩; replace HO := HO.call hb; clear hb)) | (go_at_call 49; go_must ((with_reducible refine (SB _).mono ?_); rintro e w ⟨rfl, hb⟩; replace HO := HO.call hb; clear hb)))
        replace HO := HO.tail
        go_roundw
        case rel => exact ⟨j + 1, by omega, by go_num, by rw [hsn.out, leftStep_other (x := ⟨yb, yo, ya, ys⟩) hz], by rw [hsn.out, leftStep_other (x := ⟨yb, yo, ya, ys⟩) hz], HO⟩
        case measure => simp [intOf] <;> omega
    · obtain rfl : j = D.I.length := by omega
      rw [List.take_length]
      rw [hg.out]
      go_wp2_with fail
      go_ret2
      exact ⟨rfl, HO.grown⟩

theorem openD_no {S : CoS} {I : List ItemS} {o : Int} (h : ordAt S.L o = none) : openD S I o = (0, false) := by unfold openD; rw [h]
theorem openD_yes {S : CoS} {I : List ItemS} {o : Int} {y : OrdS × D6} (h : ordAt S.L o = some y) : openD S I o = leftF I (bal S.P 1 o) o heldS := by unfold openD; rw [h]

set_option maxHeartbeats 8000000 in
set_option maxRecDepth 100000 in
theorem dkOpen_any {w : World} {x : DkA} {D : DkS} {a : CoA} {S : CoS} {i : InA} {A : InS} (h : DkAt w x D) (hc : CoAt w a S i A) (hI : ItOk D.I) (hB : Bk S.P) {o : Int} (ho : inI o = true) :
    Calls Tryz.prog 41 #[.pointer (some ⟨x.t, 0, none⟩), .pointer (some ⟨a.c, 0, none⟩), .int .i64 o] w fun e w' => e = .returned (.tuple #[.int .i64 (openD S D.I o).1, .bool (openD S D.I o).2]) ∧ Below w.heap.size w w' := by
  have HO := Own.start w
  have N := fun w' (hb : Below w.heap.size w w') => dkNone_any (h.below hb)
  have OR := fun w' (hb : Below w.heap.size w w') => coOrder_any (hc.below hb) ho
  have LF := fun w' (hb : Below w.heap.size w w') => dkLeftHeld_any (h.below hb) (hc.below hb) hI hB ho
  have hno := leftF_no (I := D.I) (o := o) (f := heldS) (hB.bal_in 1 o)
  clear h hc hI hB
  rcases hx : ordAt S.L o with _ | y
  · rw [openD_no hx]
    rw [hx] at OR
    simp only [ordR, noSaga] at OR
    clear hx LF hno
    go_enter Tryz.func41, Tryz.ntmps41
    go_wp2_with (first | go_big_skip | (first | go_big_skip | ((with_reducible apply wpList_loadAll HO); exact rfl; exact rfl; (repeat (with_reducible (first | exact At.head _ | apply At.tail))); infer_instance; exact rfl; exact rfl; (simp only [Act.put, zA, zB, zC])) | ((with_reducible apply wpList_loadOne HO); exact rfl; exact rfl; (repeat (with_reducible (first | exact At.head _ | apply At.tail))); exact rfl; infer_instance; exact rfl; (simp only [Act.put, zA, zB, zC]))) | ((with_reducible apply wpList_storeAll HO); exact rfl; exact rfl; exact rfl; (repeat (with_reducible (first | exact At.head _ | apply At.tail))); infer_instance; exact rfl; exact rfl; exact rfl; exact rfl; clear HO; intro w HO; (simp only [Act.put])) | (first | ((with_reducible apply wpList_boxAgg _ HO rfl); exact rfl; exact rfl; exact rfl; clear HO; intro b6 w HO; (simp only [Act.put, zA, zB, zC])) | ((with_reducible apply wpList_allocAgg _ HO rfl); exact rfl; infer_instance; exact rfl; clear HO; intro b6 w HO; (simp only [Act.put, zA, zB, zC]))) | (go_at_call 101; go_must ((with_reducible refine (N _ HO.grown).mono ?_); rintro e w ⟨rfl, hb⟩; replace HO := HO.call hb; clear hb)) | (go_at_call 36; go_must ((with_reducible refine (OR _ HO.grown).mono ?_); rintro e w ⟨rfl, hb⟩; replace HO := HO.call hb; clear hb)))
    go_ret2
    exact ⟨rfl, HO.grown⟩
  · rw [openD_yes hx]
    rw [hx] at OR
    obtain ⟨yo, ys⟩ := y
    simp only [ordR, sagaV] at OR
    generalize leftF D.I (bal S.P 1 o) o heldS = g at *
    obtain ⟨g1, g2⟩ := g
    clear hx
    cases g2
    · cases hno rfl
      clear hno
      go_enter Tryz.func41, Tryz.ntmps41
      go_wp2_with (first | go_big_skip | (first | go_big_skip | ((with_reducible apply wpList_loadAll HO); exact rfl; exact rfl; (repeat (with_reducible (first | exact At.head _ | apply At.tail))); infer_instance; exact rfl; exact rfl; (simp only [Act.put, zA, zB, zC])) | ((with_reducible apply wpList_loadOne HO); exact rfl; exact rfl; (repeat (with_reducible (first | exact At.head _ | apply At.tail))); exact rfl; infer_instance; exact rfl; (simp only [Act.put, zA, zB, zC]))) | ((with_reducible apply wpList_storeAll HO); exact rfl; exact rfl; exact rfl; (repeat (with_reducible (first | exact At.head _ | apply At.tail))); infer_instance; exact rfl; exact rfl; exact rfl; exact rfl; clear HO; intro w HO; (simp only [Act.put])) | (first | ((with_reducible apply wpList_boxAgg _ HO rfl); exact rfl; exact rfl; exact rfl; clear HO; intro b6 w HO; (simp only [Act.put, zA, zB, zC])) | ((with_reducible apply wpList_allocAgg _ HO rfl); exact rfl; infer_instance; exact rfl; clear HO; intro b6 w HO; (simp only [Act.put, zA, zB, zC]))) | (go_at_call 101; go_must ((with_reducible refine (N _ HO.grown).mono ?_); rintro e w ⟨rfl, hb⟩; replace HO := HO.call hb; clear hb)) | (go_at_call 36; go_must ((with_reducible refine (OR _ HO.grown).mono ?_); rintro e w ⟨rfl, hb⟩; replace HO := HO.call hb; clear hb)) | (go_at_call 102; go_must ((with_reducible refine (LF _ HO.grown).mono ?_); rintro e w ⟨rfl, hb⟩; replace HO := HO.call hb; clear hb)))
      go_ret2
      exact ⟨rfl, HO.grown⟩
    · clear hno
      go_enter Tryz.func41, Tryz.ntmps41
      go_wp2_with (first | go_big_skip | (first | go_big_skip | ((with_reducible apply wpList_loadAll HO); exact rfl; exact rfl; (repeat (with_reducible (first | exact At.head _ | apply At.tail))); infer_instance; exact rfl; exact rfl; (simp only [Act.put, zA, zB, zC])) | ((with_reducible apply wpList_loadOne HO); exact rfl; exact rfl; (repeat (with_reducible (first | exact At.head _ | apply At.tail))); exact rfl; infer_instance; exact rfl; (simp only [Act.put, zA, zB, zC]))) | ((with_reducible apply wpList_storeAll HO); exact rfl; exact rfl; exact rfl; (repeat (with_reducible (first | exact At.head _ | apply At.tail))); infer_instance; exact rfl; exact rfl; exact rfl; exact rfl; clear HO; intro w HO; (simp only [Act.put])) | (first | ((with_reducible apply wpList_boxAgg _ HO rfl); exact rfl; exact rfl; exact rfl; clear HO; intro b6 w HO; (simp only [Act.put, zA, zB, zC])) | ((with_reducible apply wpList_allocAgg _ HO rfl); exact rfl; infer_instance; exact rfl; clear HO; intro b6 w HO; (simp only [Act.put, zA, zB, zC]))) | (go_at_call 101; go_must ((with_reducible refine (N _ HO.grown).mono ?_); rintro e w ⟨rfl, hb⟩; replace HO := HO.call hb; clear hb)) | (go_at_call 36; go_must ((with_reducible refine (OR _ HO.grown).mono ?_); rintro e w ⟨rfl, hb⟩; replace HO := HO.call hb; clear hb)) | (go_at_call 102; go_must ((with_reducible refine (LF _ HO.grown).mono ?_); rintro e w ⟨rfl, hb⟩; replace HO := HO.call hb; clear hb)))
      go_ret2
      exact ⟨rfl, HO.grown⟩
set_option maxHeartbeats 8000000 in
set_option maxRecDepth 100000 in
theorem dkOpenNil_any {d : Value} {w : World} (N : ∀ w', Below w.heap.size w w' → Calls Tryz.prog 101 #[d] w' fun e w'' => e = .returned (.bool true) ∧ Below w'.heap.size w' w'') (c : Value) (o : Int) : Calls Tryz.prog 41 #[d, c, .int .i64 o] w fun e w' => e = .returned (.tuple #[.int .i64 0, .bool false]) ∧ Below w.heap.size w w' := by
  have HO := Own.start w
  go_enter Tryz.func41, Tryz.ntmps41
  go_wp2_with (first | (go_at_call 101; go_must ((with_reducible refine (N _ HO.grown).mono ?_); rintro e w ⟨rfl, hb⟩; replace HO := HO.call hb; clear hb)))
  go_ret2
  exact ⟨rfl, HO.grown⟩
end Go.Proofs.YtibabfedpdoofaaGreatDoor
namespace Go.Proofs.YtibabfedpdoofaaGreatDoor
open Go.RowKit Go.Own Go.Maps

set_option maxHeartbeats 4000000 in
set_option maxRecDepth 100000 in
theorem dkNew_any (W : World) : Calls Tryz.prog 40 #[] W fun e w' => ∃ x : DkA, e = .returned (.pointer (some ⟨x.t, 0, none⟩)) ∧ Own W w' (dkPs x ⟨[], []⟩) := by
  have HO := Own.start W
  go_enter Tryz.func40, Tryz.ntmps40
  go_wp2_with (first | (go_at_call 78; go_must ((with_reducible refine (bkNew_any _).mono ?_); rintro e w ⟨b, pm, bm, rfl, HO1⟩; replace HO := HO.lift HO1; clear HO1; simp only [List.cons_append, List.nil_append] at HO)) | (first | ((with_reducible apply wpList_boxAgg _ HO rfl); exact rfl; exact rfl; exact rfl; clear HO; intro b1 w HO; (simp only [Act.put, zA, zB, zC])) | ((with_reducible apply wpList_allocAgg _ HO rfl); exact rfl; infer_instance; exact rfl; clear HO; intro b1 w HO; (simp only [Act.put, zA, zB, zC]))) | go_big_skip)
  go_ret
  exact ⟨⟨b1, .slice none 0 0, b, .slice none 0 0, pm, bm⟩, rfl, (HO.nil 82 4).swap⟩

set_option maxHeartbeats 4000000 in
theorem dkMany_any {w : World} {x : DkA} {D : DkS} (h : DkAt w x D) : Calls Tryz.prog 43 #[.pointer (some ⟨x.t, 0, none⟩)] w fun e w' => e = .returned (.int .i64 (D.I.length : Int)) ∧ Below w.heap.size w w' := by
  have HO := Own.start w
  have N := fun w' (hb : Below w.heap.size w w') => dkNone_any (h.below hb)
  obtain ⟨p, c, hv, hmx⟩ := h.row.slice
  rw [List.length_map] at hv
  have h0 := old_cell h.box 0 rfl
  have hlt := old_lt h.box
  rw [hv] at h0
  clear h
  go_enter Tryz.func43, Tryz.ntmps43
  go_wp2_with (first | go_big_skip | ((with_reducible apply wpList_loadOld1 HO); exact rfl; exact rfl; exact hlt; exact h0; infer_instance; exact rfl; (simp only [Act.put, zA, zB, zC])) | (go_at_call 101; go_must ((with_reducible refine (N _ HO.grown).mono ?_); rintro e w ⟨rfl, hb⟩; replace HO := HO.call hb; clear hb)))
  go_ret
  exact ⟨rfl, HO.grown⟩
set_option maxHeartbeats 4000000 in
theorem dkManyNil_any {d : Value} {w : World} (N : ∀ w', Below w.heap.size w w' → Calls Tryz.prog 101 #[d] w' fun e w'' => e = .returned (.bool true) ∧ Below w'.heap.size w' w'') : Calls Tryz.prog 43 #[d] w fun e w' => e = .returned (.int .i64 0) ∧ Below w.heap.size w w' := by
  have HO := Own.start w
  go_enter Tryz.func43, Tryz.ntmps43
  go_wp2_with (first | (go_at_call 101; go_must ((with_reducible refine (N _ HO.grown).mono ?_); rintro e w ⟨rfl, hb⟩; replace HO := HO.call hb; clear hb)))
  go_ret
  exact ⟨rfl, HO.grown⟩

set_option maxHeartbeats 4000000 in
theorem dkBooks_any {W : World} {x : DkA} {D : DkS} (h : DkAt W x D) (hlen : D.P.length ≤ 100000) : Calls Tryz.prog 48 #[.pointer (some ⟨x.t, 0, none⟩)] W fun e w' => ∃ b' v' pm' bm', e = .returned (.pointer (some ⟨b', 0, none⟩)) ∧ Own W w' [bkE b' v' pm' bm' D.P] := by
  have HO := Own.start W
  have N := fun w' (hb : Below W.heap.size W w') => dkNone_any (h.below hb)
  have C := fun w' (hb : Below W.heap.size W w') => bkCopy_any (h.below hb).bk hlen
  have h1 := old_cell h.box 1 rfl
  have hlt := old_lt h.box
  clear h
  go_enter Tryz.func48, Tryz.ntmps48
  go_wp2_with (first | go_big_skip | ((with_reducible apply wpList_loadOld1 HO); exact rfl; exact rfl; exact hlt; exact h1; infer_instance; exact rfl; (simp only [Act.put, zA, zB, zC])) | (go_at_call 101; go_must ((with_reducible refine (N _ HO.grown).mono ?_); rintro e w ⟨rfl, hb⟩; replace HO := HO.call hb; clear hb)) | (go_at_call 97; go_must ((with_reducible refine (C _ HO.grown).mono ?_); rintro e w ⟨b2, v2, pm2, bm2, rfl, HO1⟩; replace HO := HO.lift HO1; clear HO1; simp only [List.cons_append, List.nil_append] at HO)))
  go_ret
  exact ⟨_, _, _, _, rfl, HO⟩
set_option maxHeartbeats 4000000 in
theorem dkBooksNil_any {d : Value} {w : World} (N : ∀ w', Below w.heap.size w w' → Calls Tryz.prog 101 #[d] w' fun e w'' => e = .returned (.bool true) ∧ Below w'.heap.size w' w'') : Calls Tryz.prog 48 #[d] w fun e w' => e = .returned (.pointer none) ∧ Below w.heap.size w w' := by
  have HO := Own.start w
  go_enter Tryz.func48, Tryz.ntmps48
  go_wp2_with (first | (go_at_call 101; go_must ((with_reducible refine (N _ HO.grown).mono ?_); rintro e w ⟨rfl, hb⟩; replace HO := HO.call hb; clear hb)))
  go_ret
  exact ⟨rfl, HO.grown⟩

def noItem : Value := .agg #[.string ⟨#[]⟩, .int .i64 0, .int .i64 0, .int .i64 0]
def itemV (x : ItemS) : Value := .agg #[.string ⟨x.b.toArray⟩, .int .i64 x.o, .int .i64 x.a, .int .i64 x.s]
def itemR (x : Option ItemS) : Value := match x with
  | some x => .tuple #[itemV x, .bool true]
  | none => .tuple #[noItem, .bool false]

set_option maxHeartbeats 8000000 in
set_option maxRecDepth 100000 in
theorem dkItem_any {w : World} {x : DkA} {D : DkS} (h : DkAt w x D) {n : Int} (hi : inI n = true) : Calls Tryz.prog 46 #[.pointer (some ⟨x.t, 0, none⟩), .int .i64 n] w fun e w' => e = .returned (itemR (itemAt D.I n)) ∧ Below w.heap.size w w' := by
  have HO := Own.start w
  have N := fun w' (hb : Below w.heap.size w w') => dkNone_any (h.below hb)
  obtain ⟨p, c, hv, hmx⟩ := h.row.slice
  rw [List.length_map] at hv hmx
  have HR := Lib.hid h.row
  have h0 := old_cell h.box 0 rfl
  have hlt := old_lt h.box
  have hmx' : (D.I.length : Int) ≤ 9223372036854775807 := by unfold maxLen at hmx; omega
  have hi := inI_iff.1 hi
  rw [hv] at h0
  generalize ha : x.v = av at *
  subst hv
  clear h ha
  by_cases h1 : n < 1 ∨ (D.I.length : Int) < n
  · have HE := Lib.hid (itemAt_no h1)
    generalize itemAt D.I n = y at *
    obtain rfl := HE.out
    clear HE HR
    by_cases h2 : n < 1
    · clear h1
      go_enter Tryz.func46, Tryz.ntmps46
      go_wp2_with (first | go_big_skip | ((with_reducible apply wpList_loadOld1 HO); exact rfl; exact rfl; exact hlt; exact h0; infer_instance; exact rfl; (simp only [Act.put, zA, zB, zC])) | (first | go_big_skip | ((with_reducible apply wpList_loadAll HO); exact rfl; exact rfl; (repeat (with_reducible (first | exact At.head _ | apply At.tail))); infer_instance; exact rfl; exact rfl; (simp only [Act.put, zA, zB, zC])) | ((with_reducible apply wpList_loadOne HO); exact rfl; exact rfl; (repeat (with_reducible (first | exact At.head _ | apply At.tail))); exact rfl; infer_instance; exact rfl; (simp only [Act.put, zA, zB, zC]))) | ((with_reducible apply wpList_storeAll HO); exact rfl; exact rfl; exact rfl; (repeat (with_reducible (first | exact At.head _ | apply At.tail))); infer_instance; exact rfl; exact rfl; exact rfl; exact rfl; clear HO; intro w HO; (simp only [Act.put])) | (first | ((with_reducible apply wpList_boxAgg _ HO rfl); exact rfl; exact rfl; exact rfl; clear HO; intro b3 w HO; (simp only [Act.put, zA, zB, zC])) | ((with_reducible apply wpList_allocAgg _ HO rfl); exact rfl; infer_instance; exact rfl; clear HO; intro b3 w HO; (simp only [Act.put, zA, zB, zC]))) | (go_at_call 101; go_must ((with_reducible refine (N _ HO.grown).mono ?_); rintro e w ⟨rfl, hb⟩; replace HO := HO.call hb; clear hb)))
      refine bodyPost_ret (results_box HO rfl rfl (by (repeat (with_reducible (first | exact At.head _ | apply At.tail)))) inferInstance rfl rfl) rfl ?_
      exact ⟨rfl, HO.grown⟩
    · have h3 : (D.I.length : Int) < n := by omega
      clear h1
      go_enter Tryz.func46, Tryz.ntmps46
      go_wp2_with (first | go_big_skip | ((with_reducible apply wpList_loadOld1 HO); exact rfl; exact rfl; exact hlt; exact h0; infer_instance; exact rfl; (simp only [Act.put, zA, zB, zC])) | (first | go_big_skip | ((with_reducible apply wpList_loadAll HO); exact rfl; exact rfl; (repeat (with_reducible (first | exact At.head _ | apply At.tail))); infer_instance; exact rfl; exact rfl; (simp only [Act.put, zA, zB, zC])) | ((with_reducible apply wpList_loadOne HO); exact rfl; exact rfl; (repeat (with_reducible (first | exact At.head _ | apply At.tail))); exact rfl; infer_instance; exact rfl; (simp only [Act.put, zA, zB, zC]))) | ((with_reducible apply wpList_storeAll HO); exact rfl; exact rfl; exact rfl; (repeat (with_reducible (first | exact At.head _ | apply At.tail))); infer_instance; exact rfl; exact rfl; exact rfl; exact rfl; clear HO; intro w HO; (simp only [Act.put])) | (first | ((with_reducible apply wpList_boxAgg _ HO rfl); exact rfl; exact rfl; exact rfl; clear HO; intro b3 w HO; (simp only [Act.put, zA, zB, zC])) | ((with_reducible apply wpList_allocAgg _ HO rfl); exact rfl; infer_instance; exact rfl; clear HO; intro b3 w HO; (simp only [Act.put, zA, zB, zC]))) | (go_at_call 101; go_must ((with_reducible refine (N _ HO.grown).mono ?_); rintro e w ⟨rfl, hb⟩; replace HO := HO.call hb; clear hb)))
      refine bodyPost_ret (results_box HO rfl rfl (by (repeat (with_reducible (first | exact At.head _ | apply At.tail)))) inferInstance rfl rfl) rfl ?_
      exact ⟨rfl, HO.grown⟩
  · obtain ⟨j, hid⟩ : ∃ j : Nat, n = (j : Int) + 1 := ⟨(n - 1).toNat, by omega⟩
    have hj : j < D.I.length := by omega
    have hjI : (j : Int) < (D.I.length : Int) := by omega
    have n1 : ¬ (n < 1) := by omega
    have n2 : ¬ ((D.I.length : Int) < n) := by omega
    have e1 : IntKind.i64.wrap (n - 1) = (j : Int) := by rw [wrap_in (inI_iff.2 (by omega))]; omega
    have HE := Lib.hid (itemAt_yes (I := D.I) hid hj)
    obtain ⟨b, rfl, hst⟩ := oldAt HR.out rfl hj
    generalize itemAt D.I n = y at *
    generalize D.I[j] = z at *
    generalize D.I.length = m at *
    obtain rfl := HE.out
    obtain ⟨zb, zo, za, zs⟩ := z
    unfold itemC at hst
    replace hst := Lib.hid hst
    clear HE HR h1 hid
    go_enter Tryz.func46, Tryz.ntmps46
    go_wp2_with (first | go_big_skip | ((with_reducible apply wpList_loadOld1 HO); exact rfl; exact rfl; exact hlt; exact h0; infer_instance; exact rfl; (simp only [Act.put, zA, zB, zC])) | ((with_reducible apply wpList_loadAt HO); exact rfl; exact rfl; exact (fun w' h1 => hst.out w' h1.grown); infer_instance; exact rfl; exact rfl; (simp only [Act.put, zA, zB, zC])) | (first | go_big_skip | ((with_reducible apply wpList_loadAll HO); exact rfl; exact rfl; (repeat (with_reducible (first | exact At.head _ | apply At.tail))); infer_instance; exact rfl; exact rfl; (simp only [Act.put, zA, zB, zC])) | ((with_reducible apply wpList_loadOne HO); exact rfl; exact rfl; (repeat (with_reducible (first | exact At.head _ | apply At.tail))); exact rfl; infer_instance; exact rfl; (simp only [Act.put, zA, zB, zC]))) | ((with_reducible apply wpList_storeAll HO); exact rfl; exact rfl; exact rfl; (repeat (with_reducible (first | exact At.head _ | apply At.tail))); infer_instance; exact rfl; exact rfl; exact rfl; exact rfl; clear HO; intro w HO; (simp only [Act.put])) | (first | ((with_reducible apply wpList_boxAgg _ HO rfl); exact rfl; exact rfl; exact rfl; clear HO; intro b3 w HO; (simp only [Act.put, zA, zB, zC])) | ((with_reducible apply wpList_allocAgg _ HO rfl); exact rfl; infer_instance; exact rfl; clear HO; intro b3 w HO; (simp only [Act.put, zA, zB, zC]))) | (go_at_call 101; go_must ((with_reducible refine (N _ HO.grown).mono ?_); rintro e w ⟨rfl, hb⟩; replace HO := HO.call hb; clear hb)))
    refine bodyPost_ret (results_box HO rfl rfl (by (repeat (with_reducible (first | exact At.head _ | apply At.tail)))) inferInstance rfl rfl) rfl ?_
    exact ⟨rfl, HO.grown⟩
set_option maxHeartbeats 4000000 in
theorem dkItemNil_any {d : Value} {w : World} (N : ∀ w', Below w.heap.size w w' → Calls Tryz.prog 101 #[d] w' fun e w'' => e = .returned (.bool true) ∧ Below w'.heap.size w' w'') (n : Int) : Calls Tryz.prog 46 #[d, .int .i64 n] w fun e w' => e = .returned (itemR none) ∧ Below w.heap.size w w' := by
  have HO := Own.start w
  go_enter Tryz.func46, Tryz.ntmps46
  go_wp2_with (first | go_big_skip | ((with_reducible apply wpList_storeAll HO); exact rfl; exact rfl; exact rfl; (repeat (with_reducible (first | exact At.head _ | apply At.tail))); infer_instance; exact rfl; exact rfl; exact rfl; exact rfl; clear HO; intro w HO; (simp only [Act.put])) | (first | ((with_reducible apply wpList_boxAgg _ HO rfl); exact rfl; exact rfl; exact rfl; clear HO; intro b3 w HO; (simp only [Act.put, zA, zB, zC])) | ((with_reducible apply wpList_allocAgg _ HO rfl); exact rfl; infer_instance; exact rfl; clear HO; intro b3 w HO; (simp only [Act.put, zA, zB, zC]))) | (go_at_call 101; go_must ((with_reducible refine (N _ HO.grown).mono ?_); rintro e w ⟨rfl, hb⟩; replace HO := HO.call hb; clear hb)))
  refine bodyPost_ret (results_box HO rfl rfl (by (repeat (with_reducible (first | exact At.head _ | apply At.tail)))) inferInstance rfl rfl) rfl ?_
  exact ⟨rfl, HO.grown⟩

theorem pend_who {I : List ItemS} {b : List UInt8} {n : Int} (h : whoB b = false) : pendE I b n = 2 := by unfold pendE; rw [if_neg (by rw [h]; simp)]
theorem pend_none {I : List ItemS} {b : List UInt8} {n : Int} (h : whoB b = true) (h1 : n < 1 ∨ (I.length : Int) < n) : pendE I b n = 4 := by unfold pendE; rw [if_pos h, itemAt_no h1]
theorem pend_at {I : List ItemS} {b : List UInt8} {n : Int} {j : Nat} (h : whoB b = true) (h1 : n = (j : Int) + 1) (hj : j < I.length) : pendE I b n = if I[j].s = 1 then 0 else 92 := by unfold pendE; rw [if_pos h, itemAt_yes h1 hj]

set_option maxHeartbeats 8000000 in
set_option maxRecDepth 100000 in
theorem dkPend_any {W : World} {x : DkA} {D : DkS} (h : DkAt W x D) {b : List UInt8} (hb : b.length ≤ maxLen) {n : Int} (hi : inI n = true) : Calls Tryz.prog 107 #[.pointer (some ⟨x.t, 0, none⟩), .string ⟨b.toArray⟩, .int .i64 n] W fun e w' => e = .returned (.int .i64 (pendE D.I b n)) ∧ Below W.heap.size W w' := by
  have HO := Own.start W
  have N := fun w' (hb : Below W.heap.size W w') => dkNone_any (h.below hb)
  have WH := fun w => who_any b hb w
  obtain ⟨p, c, hv, hmx⟩ := h.row.slice
  rw [List.length_map] at hv hmx
  have HR := Lib.hid h.row
  have h0 := old_cell h.box 0 rfl
  have hlt := old_lt h.box
  have hmx' : (D.I.length : Int) ≤ 9223372036854775807 := by unfold maxLen at hmx; omega
  have hi := inI_iff.1 hi
  rw [hv] at h0
  generalize ha : x.v = av at *
  subst hv
  clear h ha hb
  cases hw : whoB b
  · rw [pend_who hw]
    rw [hw] at WH
    clear hw HR
    go_enter Tryz.func107, Tryz.ntmps107
    go_wp2_with (first | go_big_skip | (go_at_call 101; go_must ((with_reducible refine (N _ HO.grown).mono ?_); rintro e w ⟨rfl, hb⟩; replace HO := HO.call hb; clear hb)) | (go_at_call 104; go_must ((with_reducible refine (WH _).mono ?_); rintro e w ⟨rfl, hb⟩; replace HO := HO.call hb; clear hb)))
    go_ret
    exact ⟨rfl, HO.grown⟩
  rw [hw] at WH
  by_cases h1 : n < 1 ∨ (D.I.length : Int) < n
  · rw [pend_none hw h1]
    clear hw HR
    by_cases h2 : n < 1
    · have d2 : decide (n < 1) = true := decide_eq_true h2
      clear h1
      go_enter Tryz.func107, Tryz.ntmps107
      go_wp2_with (first | go_big_skip | ((with_reducible apply wpList_loadOld1 HO); exact rfl; exact rfl; exact hlt; exact h0; infer_instance; exact rfl; (simp only [Act.put, zA, zB, zC])) | (go_at_call 101; go_must ((with_reducible refine (N _ HO.grown).mono ?_); rintro e w ⟨rfl, hb⟩; replace HO := HO.call hb; clear hb)) | (go_at_call 104; go_must ((with_reducible refine (WH _).mono ?_); rintro e w ⟨rfl, hb⟩; replace HO := HO.call hb; clear hb)))
      go_ret
      exact ⟨rfl, HO.grown⟩
    · have h3 : (D.I.length : Int) < n := by omega
      have d2 : decide (n < 1) = false := decide_eq_false h2
      have d3 : decide ((D.I.length : Int) < n) = true := decide_eq_true h3
      clear h1
      go_enter Tryz.func107, Tryz.ntmps107
      go_wp2_with (first | go_big_skip | ((with_reducible apply wpList_loadOld1 HO); exact rfl; exact rfl; exact hlt; exact h0; infer_instance; exact rfl; (simp only [Act.put, zA, zB, zC])) | (go_at_call 101; go_must ((with_reducible refine (N _ HO.grown).mono ?_); rintro e w ⟨rfl, hb⟩; replace HO := HO.call hb; clear hb)) | (go_at_call 104; go_must ((with_reducible refine (WH _).mono ?_); rintro e w ⟨rfl, hb⟩; replace HO := HO.call hb; clear hb)))
      go_ret
      exact ⟨rfl, HO.grown⟩
  · obtain ⟨j, hid⟩ : ∃ j : Nat, n = (j : Int) + 1 := ⟨(n - 1).toNat, by omega⟩
    have hj : j < D.I.length := by omega
    rw [pend_at hw hid hj]
    have hjI : (j : Int) < (D.I.length : Int) := by omega
    have n1 : ¬ (n < 1) := by omega
    have n2 : ¬ ((D.I.length : Int) < n) := by omega
    have d2 : decide (n < 1) = false := decide_eq_false n1
    have d3 : decide ((D.I.length : Int) < n) = false := decide_eq_false n2
    have e1 : IntKind.i64.wrap (n - 1) = (j : Int) := by rw [wrap_in (inI_iff.2 (by omega))]; omega
    obtain ⟨q, rfl, hst⟩ := oldAt HR.out rfl hj
    generalize D.I[j] = z at *
    generalize D.I.length = m at *
    obtain ⟨zb, zo, za, zs⟩ := z
    have h3 := Lib.hid (fun w' h => hst w' h 3 (.int .i64 zs) rfl)
    clear hst HR h1 hid hw
    by_cases hz : zs = 1
    · subst hz
      rw [if_pos rfl]
      go_enter Tryz.func107, Tryz.ntmps107
      go_wp2_with (first | go_big_skip | ((with_reducible apply wpList_loadOld1 HO); exact rfl; exact rfl; exact hlt; exact h0; infer_instance; exact rfl; (simp only [Act.put, zA, zB, zC])) | ((with_reducible apply wpList_loadAt1 HO); exact rfl; exact rfl; exact (fun w' h1 => h3.out w' h1.grown); infer_instance; exact rfl; (simp only [Act.put, zA, zB, zC])) | (go_at_call 101; go_must ((with_reducible refine (N _ HO.grown).mono ?_); rintro e w ⟨rfl, hb⟩; replace HO := HO.call hb; clear hb)) | (go_at_call 104; go_must ((with_reducible refine (WH _).mono ?_); rintro e w ⟨rfl, hb⟩; replace HO := HO.call hb; clear hb)))
      go_ret
      exact ⟨rfl, HO.grown⟩
    · have hd : (zs != 1) = true := by simpa using hz
      rw [if_neg hz]
      clear hz
      go_enter Tryz.func107, Tryz.ntmps107
      go_wp2_with (first | go_big_skip | ((with_reducible apply wpList_loadOld1 HO); exact rfl; exact rfl; exact hlt; exact h0; infer_instance; exact rfl; (simp only [Act.put, zA, zB, zC])) | ((with_reducible apply wpList_loadAt1 HO); exact rfl; exact rfl; exact (fun w' h1 => h3.out w' h1.grown); infer_instance; exact rfl; (simp only [Act.put, zA, zB, zC])) | (go_at_call 101; go_must ((with_reducible refine (N _ HO.grown).mono ?_); rintro e w ⟨rfl, hb⟩; replace HO := HO.call hb; clear hb)) | (go_at_call 104; go_must ((with_reducible refine (WH _).mono ?_); rintro e w ⟨rfl, hb⟩; replace HO := HO.call hb; clear hb)))
      go_ret
      exact ⟨rfl, HO.grown⟩
set_option maxHeartbeats 4000000 in
theorem dkPendNil_any {d : Value} {w : World} (N : ∀ w', Below w.heap.size w w' → Calls Tryz.prog 101 #[d] w' fun e w'' => e = .returned (.bool true) ∧ Below w'.heap.size w' w'') (b : ByteArray) (n : Int) : Calls Tryz.prog 107 #[d, .string b, .int .i64 n] w fun e w' => e = .returned (.int .i64 1) ∧ Below w.heap.size w w' := by
  have HO := Own.start w
  go_enter Tryz.func107, Tryz.ntmps107
  go_wp2_with (first | go_big_skip | (go_at_call 101; go_must ((with_reducible refine (N _ HO.grown).mono ?_); rintro e w ⟨rfl, hb⟩; replace HO := HO.call hb; clear hb)))
  go_ret
  exact ⟨rfl, HO.grown⟩
end Go.Proofs.YtibabfedpdoofaaGreatDoor
namespace Go.Proofs.YtibabfedpdoofaaGreatDoor
open Go.RowKit Go.Own Go.Maps

theorem dk_in (X : List Ent) (x : DkA) (D : DkS) (M : List Ent) : ∀ e ∈ dkPs x D, e ∈ X ++ (dkPs x D ++ M) := fun _e he => List.mem_append_right _ (List.mem_append_left _ he)
theorem dk_set (I : List ItemS) {j : Nat} (hj : j < I.length) (s : Int) : (I.set j { I[j] with s := s }).map itemC = (I.map itemC).set j ((itemC I[j]).set 3 (.int .i64 s)) := by
  rw [List.map_set]
  rfl
theorem refu_no {I : List ItemS} {b : List UInt8} {n : Int} (h : pendE I b n ≠ 0) : refuI I b n = I := by unfold refuI; rw [if_neg h]
theorem refu_at {I : List ItemS} {b : List UInt8} {n : Int} {j : Nat} (hn : n = (j : Int) + 1) (h : pendE I b n = 0) (hj : j < I.length) : refuI I b n = I.set j { I[j] with s := 3 } := by
  subst hn
  unfold refuI
  rw [if_pos h, itemAt_yes rfl hj]
  simp only
  unfold setI
  rw [show ((j : Int) + 1 - 1).toNat = j by omega]

set_option maxHeartbeats 8000000 in
set_option maxRecDepth 100000 in
theorem dkRefuse_any {W w : World} {M : List Ent} {x : DkA} {D : DkS} {b : List UInt8} {n : Int} (HO : Own W w (dkPs x D ++ M)) (hb : b.length ≤ maxLen) (hi : inI n = true) :
    Calls Tryz.prog 44 #[.pointer (some ⟨x.t, 0, none⟩), .string ⟨b.toArray⟩, .int .i64 n] w fun e w' => e = .returned (.int .i64 (pendE D.I b n)) ∧ Own W w' (dkPs x ⟨refuI D.I b n, D.P⟩ ++ M) := by
  have PD := Lib.hid (fun (w : World) (L : List Ent) (h : Own W w L) (hm : ∀ e ∈ dkPs x D, e ∈ L) => dkPend_any (Own.dkAt h hm) hb hi)
  by_cases hz : pendE D.I b n = 0
  rotate_left
  · rw [refu_no hz]
    have hd : (pendE D.I b n != 0) = true := by rw [bne_iff_ne]; exact hz
    generalize pendE D.I b n = e9 at *
    clear hz
    go_enter Tryz.func44, Tryz.ntmps44
    go_wp2_with (first | go_big_skip | (go_at_call 107; go_must ((with_reducible refine (PD.out _ _ HO (dk_in [] _ _ _)).mono ?_); rintro e w ⟨rfl, hb⟩; replace HO := HO.call hb; clear hb)))
    go_ret
    exact ⟨rfl, HO⟩
  obtain ⟨_, j, hj, hn, -, -⟩ := pend_zero hz
  rw [refu_at hn hz hj]
  rw [hz] at PD ⊢
  clear hz
  obtain ⟨t, v, k, u, pm, bm⟩ := x
  have HO1 : Own W w (box t (.cells #[v, .pointer (some ⟨k, 0, none⟩)] 96) :: row 82 4 v (D.I.map itemC) :: bkE k u pm bm D.P :: M) := HO
  clear HO
  have HO := HO1
  clear HO1
  obtain ⟨q, c, hv⟩ := (HO.rowForm (t := 82) (k := 4) (v := v) (by (repeat (with_reducible (first | exact At.head _ | apply At.tail))))).2 (by rw [List.length_map]; omega)
  rw [List.length_map] at hv
  subst hv
  have hset := Lib.hid (dk_set D.I hj 3)
  have HG := Lib.hid (show (D.I.map itemC)[j]? = some (itemC D.I[j]) by simp [hj])
  have hI := inI_iff.1 hi
  have hjI : (j : Int) < (D.I.length : Int) := by omega
  have e1 : IntKind.i64.wrap (n - 1) = (j : Int) := by rw [show n - 1 = (j : Int) by omega, wrap_in (inI_iff.2 (by omega))]
  have PD' := Lib.hid (fun (w : World) (h : Own W w (box t (.cells #[.slice (some q) D.I.length c, .pointer (some ⟨k, 0, none⟩)] 96) :: row 82 4 (.slice (some q) D.I.length c) (D.I.map itemC) :: bkE k u pm bm D.P :: M)) => PD.out w _ h (dk_in [] _ _ _))
  simp only at PD'
  clear PD hi hn
  generalize D.I[j] = z at *
  go_enter Tryz.func44, Tryz.ntmps44
  go_wp2_with (first | go_big_skip | (first | go_big_skip | ((with_reducible apply wpList_loadAll HO); exact rfl; exact rfl; (repeat (with_reducible (first | exact At.head _ | apply At.tail))); infer_instance; exact rfl; exact rfl; (simp only [Act.put, zA, zB, zC])) | ((with_reducible apply wpList_loadOne HO); exact rfl; exact rfl; (repeat (with_reducible (first | exact At.head _ | apply At.tail))); exact rfl; infer_instance; exact rfl; (simp only [Act.put, zA, zB, zC]))) | (go_at_call 107; go_must ((with_reducible refine (PD'.out _ HO).mono ?_); rintro e w ⟨rfl, hb⟩; replace HO := HO.call hb; clear hb)) | ((with_reducible apply wpList_storeRow1 (q := q) (i := j) (k := 4) (f := 3) (n := D.I.length) (c := c) HO); exact rfl; exact rfl; (first | (simp [Act.eval]; rfl) | exact rfl); exact rfl; exact HG.out; decide; (repeat (with_reducible (first | exact At.head _ | apply At.tail))); exact itemC_len _; infer_instance; exact rfl; clear HO; intro w HO; (simp only [Act.put])))
  go_ret
  refine ⟨rfl, ?_⟩
  show Own W w (box t (.cells #[.slice (some q) D.I.length c, .pointer (some ⟨k, 0, none⟩)] 96) :: row 82 4 (.slice (some q) D.I.length c) ((D.I.set j { z with s := 3 }).map itemC) :: bkE k u pm bm D.P :: M)
  rw [hset.out]
  exact HO
set_option maxHeartbeats 4000000 in
theorem dkRefuseNil_any {d : Value} {w : World} (N : ∀ w', Below w.heap.size w w' → Calls Tryz.prog 101 #[d] w' fun e w'' => e = .returned (.bool true) ∧ Below w'.heap.size w' w'') (b : ByteArray) (n : Int) : Calls Tryz.prog 44 #[d, .string b, .int .i64 n] w fun e w' => e = .returned (.int .i64 1) ∧ Below w.heap.size w w' := by
  have HO := Own.start w
  go_enter Tryz.func44, Tryz.ntmps44
  go_wp2_with (first | go_big_skip | (go_at_call 107; go_must ((with_reducible refine (dkPendNil_any (fun w' hb => N w' (HO.grown.trans (hb.mono HO.grown.size))) b n).mono ?_); rintro e w ⟨rfl, hb⟩; replace HO := HO.call hb; clear hb)))
  go_ret
  exact ⟨rfl, HO.grown⟩

theorem prop_who {S : CoS} {I : List ItemS} {x : ItemS} (h : whoB x.b = false) : propE S I x = 2 ∧ propI S I x = I ∧ propN S I x = 0 := by
  have e : propE S I x = 2 := by unfold propE; rw [if_neg (by rw [h]; simp)]
  refine ⟨e, ?_, ?_⟩
  · unfold propI; rw [e]; rfl
  · unfold propN; rw [e]; rfl
theorem prop_none {S : CoS} {I : List ItemS} {x : ItemS} (h : whoB x.b = true) (hx : ordAt S.L x.o = none) : propE S I x = 4 ∧ propI S I x = I ∧ propN S I x = 0 := by
  have e : propE S I x = 4 := by unfold propE; rw [if_pos h, hx]
  refine ⟨e, ?_, ?_⟩
  · unfold propI; rw [e]; rfl
  · unfold propN; rw [e]; rfl
theorem prop_waits {S : CoS} {I : List ItemS} {x : ItemS} {y : OrdS × D6} (h : whoB x.b = true) (hx : ordAt S.L x.o = some y) (hw : (waitsOf y.2).2 = true) : propE S I x = 92 ∧ propI S I x = I ∧ propN S I x = 0 := by
  have e : propE S I x = 92 := by unfold propE; rw [if_pos h, hx]; simp only; rw [if_pos hw]
  refine ⟨e, ?_, ?_⟩
  · unfold propI; rw [e]; rfl
  · unfold propN; rw [e]; rfl
theorem prop_over {S : CoS} {I : List ItemS} {x : ItemS} {y : OrdS × D6} (h : whoB x.b = true) (hx : ordAt S.L x.o = some y) (hw : (waitsOf y.2).2 = false) (h1 : ¬ ((openD S I x.o).2 = true ∧ withinB x.a (openD S I x.o).1 = true)) : propE S I x = 90 ∧ propI S I x = I ∧ propN S I x = 0 := by
  have e : propE S I x = 90 := by unfold propE; rw [if_pos h, hx]; simp only; rw [if_neg (by rw [hw]; simp), if_neg h1]
  refine ⟨e, ?_, ?_⟩
  · unfold propI; rw [e]; rfl
  · unfold propN; rw [e]; rfl
theorem prop_full {S : CoS} {I : List ItemS} {x : ItemS} {y : OrdS × D6} (h : whoB x.b = true) (hx : ordAt S.L x.o = some y) (hw : (waitsOf y.2).2 = false) (h1 : (openD S I x.o).2 = true ∧ withinB x.a (openD S I x.o).1 = true) (h2 : ¬ I.length < 100) : propE S I x = 60 ∧ propI S I x = I ∧ propN S I x = 0 := by
  have e : propE S I x = 60 := by unfold propE; rw [if_pos h, hx]; simp only; rw [if_neg (by rw [hw]; simp), if_pos h1, if_neg h2]
  refine ⟨e, ?_, ?_⟩
  · unfold propI; rw [e]; rfl
  · unfold propN; rw [e]; rfl
theorem prop_yes {S : CoS} {I : List ItemS} {x : ItemS} {y : OrdS × D6} (h : whoB x.b = true) (hx : ordAt S.L x.o = some y) (hw : (waitsOf y.2).2 = false) (h1 : (openD S I x.o).2 = true ∧ withinB x.a (openD S I x.o).1 = true) (h2 : I.length < 100) : propE S I x = 0 ∧ propI S I x = I ++ [{ x with s := 1 }] ∧ propN S I x = (I.length : Int) + 1 := by
  have e : propE S I x = 0 := by unfold propE; rw [if_pos h, hx]; simp only; rw [if_neg (by rw [hw]; simp), if_pos h1, if_pos h2]
  refine ⟨e, ?_, ?_⟩
  · unfold propI; rw [if_pos e]
  · unfold propN; rw [if_pos e]

set_option maxHeartbeats 16000000 in
set_option maxRecDepth 100000 in
theorem dkProp_any {W w : World} {M : List Ent} {x : DkA} {D : DkS} {a : CoA} {S : CoS} {i : InA} {A : InS} (y : ItemS) (HO : Own W w (dkPs x D ++ M)) (hm : ∀ e ∈ coPs a S i A, e ∈ M) (hI : ItOk D.I) (hB : Bk S.P) (hy : inI y.o = true) (hyb : y.b.length ≤ maxLen) (hlen : D.I.length ≤ 1000) :
    Calls Tryz.prog 42 #[.pointer (some ⟨x.t, 0, none⟩), .pointer (some ⟨a.c, 0, none⟩), itemV y] w fun e w' => e = .returned (.tuple #[.int .i64 (propN S D.I y), .int .i64 (propE S D.I y)]) ∧ ∃ v', Own W w' (dkPs { x with v := v' } ⟨propI S D.I y, D.P⟩ ++ M) := by
  obtain ⟨t, v, k, u, pm, bm⟩ := x
  have HO1 : Own W w (box t (.cells #[v, .pointer (some ⟨k, 0, none⟩)] 96) :: row 82 4 v (D.I.map itemC) :: bkE k u pm bm D.P :: M) := HO
  clear HO
  have HO := HO1
  clear HO1
  obtain ⟨⟨p, c, hv⟩, -⟩ := HO.rowForm (t := 82) (k := 4) (v := v) (by (repeat (with_reducible (first | exact At.head _ | apply At.tail))))
  rw [List.length_map] at hv
  subst hv
  have DA := Lib.hid (fun (w : World) (X : List Ent) (h : Own W w (X ++ (box t (.cells #[.slice p D.I.length c, .pointer (some ⟨k, 0, none⟩)] 96) :: row 82 4 (.slice p D.I.length c) (D.I.map itemC) :: bkE k u pm bm D.P :: M))) => (Own.dkAt h (dk_in X ⟨t, .slice p D.I.length c, k, u, pm, bm⟩ D M) : DkAt w ⟨t, .slice p D.I.length c, k, u, pm, bm⟩ D))
  have CA := Lib.hid (fun (w : World) (X : List Ent) (h : Own W w (X ++ (box t (.cells #[.slice p D.I.length c, .pointer (some ⟨k, 0, none⟩)] 96) :: row 82 4 (.slice p D.I.length c) (D.I.map itemC) :: bkE k u pm bm D.P :: M))) => (Own.coAt h (List.mem_append_right _ (.tail _ (.tail _ (.tail _ (hm _ (.head _)))))) (List.mem_append_right _ (.tail _ (.tail _ (.tail _ (hm _ (.tail _ (.head _))))))) (List.mem_append_right _ (.tail _ (.tail _ (.tail _ (hm _ (.tail _ (.tail _ (.head _)))))))) : CoAt w a S i A))
  have N := Lib.hid (fun (w : World) (h : DkAt w ⟨t, .slice p D.I.length c, k, u, pm, bm⟩ D) => dkNone_any h)
  have OP := Lib.hid (fun (w : World) (h : DkAt w ⟨t, .slice p D.I.length c, k, u, pm, bm⟩ D) (hc : CoAt w a S i A) => dkOpen_any h hc hI hB hy)
  have OR := Lib.hid (fun (w : World) (hc : CoAt w a S i A) => coOrder_any hc hy)
  have WH := fun w => who_any y.b hyb w
  have hlx : (D.I.length : Int) ≤ 1000 := by omega
  simp only at N OP
  clear hm hI hB hyb hy
  obtain ⟨yb, yo, ya, ys⟩ := y
  simp only [itemV] at *
  cases hw : whoB yb
  · obtain ⟨e1, e2, e3⟩ := prop_who (S := S) (I := D.I) (x := ⟨yb, yo, ya, ys⟩) hw
    rw [e1, e2, e3]
    rw [hw] at WH
    clear hw e1 e2 e3 OP OR CA
    go_enter Tryz.func42, Tryz.ntmps42
    go_wp2_with (first | go_big_skip | (first | go_big_skip | ((with_reducible apply wpList_loadAll HO); exact rfl; exact rfl; (repeat (with_reducible (first | exact At.head _ | apply At.tail))); infer_instance; exact rfl; exact rfl; (simp only [Act.put, zA, zB, zC])) | ((with_reducible apply wpList_loadOne HO); exact rfl; exact rfl; (repeat (with_reducible (first | exact At.head _ | apply At.tail))); exact rfl; infer_instance; exact rfl; (simp only [Act.put, zA, zB, zC]))) | (first | ((with_reducible apply wpList_boxAgg _ HO rfl); exact rfl; exact rfl; exact rfl; clear HO; intro b5 w HO; (simp only [Act.put, zA, zB, zC])) | ((with_reducible apply wpList_allocAgg _ HO rfl); exact rfl; infer_instance; exact rfl; clear HO; intro b5 w HO; (simp only [Act.put, zA, zB, zC]))) | (go_at_call 101; go_must ((with_reducible refine (N.out _ (DA.out _ [_] HO)).mono ?_); rintro e w ⟨rfl, hb⟩; replace HO := HO.call hb; clear hb)) | (go_at_call 104; go_must ((with_reducible refine (WH _).mono ?_); rintro e w ⟨rfl, hb⟩; replace HO := HO.call hb; clear hb)))
    go_ret2
    exact ⟨rfl, _, HO.tail⟩
  rw [hw] at WH
  rcases hx : ordAt S.L yo with _ | z
  · obtain ⟨e1, e2, e3⟩ := prop_none (S := S) (I := D.I) (x := ⟨yb, yo, ya, ys⟩) hw hx
    rw [e1, e2, e3]
    rw [hx] at OR
    simp only [ordR, noSaga] at OR
    have ho : openD S D.I yo = (0, false) := openD_no hx
    rw [ho] at OP
    clear hw e1 e2 e3 hx ho
    go_enter Tryz.func42, Tryz.ntmps42
    go_wp2_with (first | go_big_skip | (first | go_big_skip | ((with_reducible apply wpList_loadAll HO); exact rfl; exact rfl; (repeat (with_reducible (first | exact At.head _ | apply At.tail))); infer_instance; exact rfl; exact rfl; (simp only [Act.put, zA, zB, zC])) | ((with_reducible apply wpList_loadOne HO); exact rfl; exact rfl; (repeat (with_reducible (first | exact At.head _ | apply At.tail))); exact rfl; infer_instance; exact rfl; (simp only [Act.put, zA, zB, zC]))) | ((with_reducible apply wpList_storeAll HO); exact rfl; exact rfl; exact rfl; (repeat (with_reducible (first | exact At.head _ | apply At.tail))); infer_instance; exact rfl; exact rfl; exact rfl; exact rfl; clear HO; intro w HO; (simp only [Act.put])) | (first | ((with_reducible apply wpList_boxAgg _ HO rfl); exact rfl; exact rfl; exact rfl; clear HO; intro b5 w HO; (simp only [Act.put, zA, zB, zC])) | ((with_reducible apply wpList_allocAgg _ HO rfl); exact rfl; infer_instance; exact rfl; clear HO; intro b5 w HO; (simp only [Act.put, zA, zB, zC]))) | (go_at_call 101; go_must ((with_reducible refine (N.out _ (DA.out _ [_] HO)).mono ?_); rintro e w ⟨rfl, hb⟩; replace HO := HO.call hb; clear hb)) | (go_at_call 104; go_must ((with_reducible refine (WH _).mono ?_); rintro e w ⟨rfl, hb⟩; replace HO := HO.call hb; clear hb)) | (go_at_call 36; go_must ((with_reducible refine (OR.out _ (CA.out _ [_] HO)).mono ?_); rintro e w ⟨rfl, hb⟩; replace HO := HO.call hb; clear hb)) | (go_at_call 41; go_must ((with_reducible refine (OP.out _ (DA.out _ [_, _] HO) (CA.out _ [_, _] HO)).mono ?_); rintro e w ⟨rfl, hb⟩; replace HO := HO.call hb; clear hb)))
    go_ret2
    exact ⟨rfl, _, HO.tail.tail⟩
  obtain ⟨zo, zs⟩ := z
  rw [hx] at OR
  have EN := fun w => ended_any zo zs w
  simp only [ordR, sagaV] at OR EN
  cases hwt : (waitsOf zs).2
  rotate_left
  · obtain ⟨e1, e2, e3⟩ := prop_waits (S := S) (I := D.I) (x := ⟨yb, yo, ya, ys⟩) hw hx hwt
    rw [e1, e2, e3]
    rw [hwt] at EN
    clear hw e1 e2 e3 hx hwt
    generalize openD S D.I yo = g at *
    obtain ⟨g1, g2⟩ := g
    simp only at OP
    go_enter Tryz.func42, Tryz.ntmps42
    go_wp2_with (first | go_big_skip | (first | go_big_skip | ((with_reducible apply wpList_loadAll HO); exact rfl; exact rfl; (repeat (with_reducible (first | exact At.head _ | apply At.tail))); infer_instance; exact rfl; exact rfl; (simp only [Act.put, zA, zB, zC])) | ((with_reducible apply wpList_loadOne HO); exact rfl; exact rfl; (repeat (with_reducible (first | exact At.head _ | apply At.tail))); exact rfl; infer_instance; exact rfl; (simp only [Act.put, zA, zB, zC]))) | ((with_reducible apply wpList_storeAll HO); exact rfl; exact rfl; exact rfl; (repeat (with_reducible (first | exact At.head _ | apply At.tail))); infer_instance; exact rfl; exact rfl; exact rfl; exact rfl; clear HO; intro w HO; (simp only [Act.put])) | (first | ((with_reducible apply wpList_boxAgg _ HO rfl); exact rfl; exact rfl; exact rfl; clear HO; intro b5 w HO; (simp only [Act.put, zA, zB, zC])) | ((with_reducible apply wpList_allocAgg _ HO rfl); exact rfl; infer_instance; exact rfl; clear HO; intro b5 w HO; (simp only [Act.put, zA, zB, zC]))) | (go_at_call 101; go_must ((with_reducible refine (N.out _ (DA.out _ [_] HO)).mono ?_); rintro e w ⟨rfl, hb⟩; replace HO := HO.call hb; clear hb)) | (go_at_call 104; go_must ((with_reducible refine (WH _).mono ?_); rintro e w ⟨rfl, hb⟩; replace HO := HO.call hb; clear hb)) | (go_at_call 36; go_must ((with_reducible refine (OR.out _ (CA.out _ [_] HO)).mono ?_); rintro e w ⟨rfl, hb⟩; replace HO := HO.call hb; clear hb)) | (go_at_call 41; go_must ((with_reducible refine (OP.out _ (DA.out _ [_, _] HO) (CA.out _ [_, _] HO)).mono ?_); rintro e w ⟨rfl, hb⟩; replace HO := HO.call hb; clear hb)) | (go_at_call 105; go_must ((with_reducible refine (EN _).mono ?_); rintro e w ⟨rfl, hb⟩; replace HO := HO.call hb; clear hb)))
    go_ret2
    exact ⟨rfl, _, HO.tail.tail⟩
  rw [hwt] at EN
  have WI := fun w => within_any ya (openD S D.I yo).1 w
  by_cases h1 : (openD S D.I yo).2 = true ∧ withinB ya (openD S D.I yo).1 = true
  rotate_left
  · obtain ⟨e1, e2, e3⟩ := prop_over (S := S) (I := D.I) (x := ⟨yb, yo, ya, ys⟩) hw hx hwt h1
    rw [e1, e2, e3]
    clear hw e1 e2 e3 hx hwt
    generalize openD S D.I yo = g at *
    obtain ⟨g1, g2⟩ := g
    simp only at OP h1 WI
    cases g2
    · clear h1 WI
      go_enter Tryz.func42, Tryz.ntmps42
      go_wp2_with (first | go_big_skip | (first | go_big_skip | ((with_reducible apply wpList_loadAll HO); exact rfl; exact rfl; (repeat (with_reducible (first | exact At.head _ | apply At.tail))); infer_instance; exact rfl; exact rfl; (simp only [Act.put, zA, zB, zC])) | ((with_reducible apply wpList_loadOne HO); exact rfl; exact rfl; (repeat (with_reducible (first | exact At.head _ | apply At.tail))); exact rfl; infer_instance; exact rfl; (simp only [Act.put, zA, zB, zC]))) | ((with_reducible apply wpList_storeAll HO); exact rfl; exact rfl; exact rfl; (repeat (with_reducible (first | exact At.head _ | apply At.tail))); infer_instance; exact rfl; exact rfl; exact rfl; exact rfl; clear HO; intro w HO; (simp only [Act.put])) | (first | ((with_reducible apply wpList_boxAgg _ HO rfl); exact rfl; exact rfl; exact rfl; clear HO; intro b5 w HO; (simp only [Act.put, zA, zB, zC])) | ((with_reducible apply wpList_allocAgg _ HO rfl); exact rfl; infer_instance; exact rfl; clear HO; intro b5 w HO; (simp only [Act.put, zA, zB, zC]))) | (go_at_call 101; go_must ((with_reducible refine (N.out _ (DA.out _ [_] HO)).mono ?_); rintro e w ⟨rfl, hb⟩; replace HO := HO.call hb; clear hb)) | (go_at_call 104; go_must ((with_reducible refine (WH _).mono ?_); rintro e w ⟨rfl, hb⟩; replace HO := HO.call hb; clear hb)) | (go_at_call 36; go_must ((with_reducible refine (OR.out _ (CA.out _ [_] HO)).mono ?_); rintro e w ⟨rfl, hb⟩; replace HO := HO.call hb; clear hb)) | (go_at_call 41; go_must ((with_reducible refine (OP.out _ (DA.out _ [_, _] HO) (CA.out _ [_, _] HO)).mono ?_); rintro e w ⟨rfl, hb⟩; replace HO := HO.call hb; clear hb)) | (go_at_call 105; go_must ((with_reducible refine (EN _).mono ?_); rintro e w ⟨rfl, hb⟩; replace HO := HO.call hb; clear hb)))
      go_ret2
      exact ⟨rfl, _, HO.tail.tail⟩
    · have hwb : withinB ya g1 = false := by rw [← Bool.not_eq_true]; exact fun hh => h1 ⟨rfl, hh⟩
      rw [hwb] at WI
      clear h1 hwb
      go_enter Tryz.func42, Tryz.ntmps42
      go_wp2_with (first | go_big_skip | (first | go_big_skip | ((with_reducible apply wpList_loadAll HO); exact rfl; exact rfl; (repeat (with_reducible (first | exact At.head _ | apply At.tail))); infer_instance; exact rfl; exact rfl; (simp only [Act.put, zA, zB, zC])) | ((with_reducible apply wpList_loadOne HO); exact rfl; exact rfl; (repeat (with_reducible (first | exact At.head _ | apply At.tail))); exact rfl; infer_instance; exact rfl; (simp only [Act.put, zA, zB, zC]))) | ((with_reducible apply wpList_storeAll HO); exact rfl; exact rfl; exact rfl; (repeat (with_reducible (first | exact At.head _ | apply At.tail))); infer_instance; exact rfl; exact rfl; exact rfl; exact rfl; clear HO; intro w HO; (simp only [Act.put])) | (first | ((with_reducible apply wpList_boxAgg _ HO rfl); exact rfl; exact rfl; exact rfl; clear HO; intro b5 w HO; (simp only [Act.put, zA, zB, zC])) | ((with_reducible apply wpList_allocAgg _ HO rfl); exact rfl; infer_instance; exact rfl; clear HO; intro b5 w HO; (simp only [Act.put, zA, zB, zC]))) | (go_at_call 101; go_must ((with_reducible refine (N.out _ (DA.out _ [_] HO)).mono ?_); rintro e w ⟨rfl, hb⟩; replace HO := HO.call hb; clear hb)) | (go_at_call 104; go_must ((with_reducible refine (WH _).mono ?_); rintro e w ⟨rfl, hb⟩; replace HO := HO.call hb; clear hb)) | (go_at_call 36; go_must ((with_reducible refine (OR.out _ (CA.out _ [_] HO)).mono ?_); rintro e w ⟨rfl, hb⟩; replace HO := HO.call hb; clear hb)) | (go_at_call 41; go_must ((with_reducible refine (OP.out _ (DA.out _ [_, _] HO) (CA.out _ [_, _] HO)).mono ?_); rintro e w ⟨rfl, hb⟩; replace HO := HO.call hb; clear hb)) | (go_at_call 105; go_must ((with_reducible refine (EN _).mono ?_); rintro e w ⟨rfl, hb⟩; replace HO := HO.call hb; clear hb)) | (go_at_call 106; go_must ((with_reducible refine (WI _).mono ?_); rintro e w ⟨rfl, hb⟩; replace HO := HO.call hb; clear hb)))
      go_ret2
      exact ⟨rfl, _, HO.tail.tail⟩
  by_cases h2 : D.I.length < 100
  rotate_left
  · obtain ⟨e1, e2, e3⟩ := prop_full (S := S) (I := D.I) (x := ⟨yb, yo, ya, ys⟩) hw hx hwt h1 h2
    rw [e1, e2, e3]
    have hd : (100 : Int) ≤ (D.I.length : Int) := by omega
    obtain ⟨h3, h4⟩ := h1
    rw [h4] at WI
    clear hw e1 e2 e3 hx hwt h2 h4
    generalize openD S D.I yo = g at *
    obtain ⟨g1, g2⟩ := g
    simp only at OP h3 WI
    subst h3
    go_enter Tryz.func42, Tryz.ntmps42
    go_wp2_with (first | go_big_skip | (first | go_big_skip | ((with_reducible apply wpList_loadAll HO); exact rfl; exact rfl; (repeat (with_reducible (first | exact At.head _ | apply At.tail))); infer_instance; exact rfl; exact rfl; (simp only [Act.put, zA, zB, zC])) | ((with_reducible apply wpList_loadOne HO); exact rfl; exact rfl; (repeat (with_reducible (first | exact At.head _ | apply At.tail))); exact rfl; infer_instance; exact rfl; (simp only [Act.put, zA, zB, zC]))) | ((with_reducible apply wpList_storeAll HO); exact rfl; exact rfl; exact rfl; (repeat (with_reducible (first | exact At.head _ | apply At.tail))); infer_instance; exact rfl; exact rfl; exact rfl; exact rfl; clear HO; intro w HO; (simp only [Act.put])) | (first | ((with_reducible apply wpList_boxAgg _ HO rfl); exact rfl; exact rfl; exact rfl; clear HO; intro b5 w HO; (simp only [Act.put, zA, zB, zC])) | ((with_reducible apply wpList_allocAgg _ HO rfl); exact rfl; infer_instance; exact rfl; clear HO; intro b5 w HO; (simp only [Act.put, zA, zB, zC]))) | (go_at_call 101; go_must ((with_reducible refine (N.out _ (DA.out _ [_] HO)).mono ?_); rintro e w ⟨rfl, hb⟩; replace HO := HO.call hb; clear hb)) | (go_at_call 104; go_must ((with_reducible refine (WH _).mono ?_); rintro e w ⟨rfl, hb⟩; replace HO := HO.call hb; clear hb)) | (go_at_call 36; go_must ((with_reducible refine (OR.out _ (CA.out _ [_] HO)).mono ?_); rintro e w ⟨rfl, hb⟩; replace HO := HO.call hb; clear hb)) | (go_at_call 41; go_must ((with_reducible refine (OP.out _ (DA.out _ [_, _] HO) (CA.out _ [_, _] HO)).mono ?_); rintro e w ⟨rfl, hb⟩; replace HO := HO.call hb; clear hb)) | (go_at_call 105; go_must ((with_reducible refine (EN _).mono ?_); rintro e w ⟨rfl, hb⟩; replace HO := HO.call hb; clear hb)) | (go_at_call 106; go_must ((with_reducible refine (WI _).mono ?_); rintro e w ⟨rfl, hb⟩; replace HO := HO.call hb; clear hb)))
    go_ret2
    exact ⟨rfl, _, HO.tail.tail⟩
  obtain ⟨e1, e2, e3⟩ := prop_yes (S := S) (I := D.I) (x := ⟨yb, yo, ya, ys⟩) hw hx hwt h1 h2
  rw [e1, e2, e3]
  have hd : (D.I.length : Int) < 100 := by omega
  obtain ⟨h3, h4⟩ := h1
  rw [h4] at WI
  have hlm : (D.I.map itemC).length + 1 ≤ 1000000 := by rw [List.length_map]; omega
  have hpc := Lib.hid (show (D.I ++ [({ b := yb, o := yo, a := ya, s := 1 } : ItemS)]).map itemC = D.I.map itemC ++ [[.string ⟨yb.toArray⟩, .int .i64 yo, .int .i64 ya, .int .i64 1]] by simp [itemC])
  clear hw e1 e2 e3 hx hwt h2 h4
  generalize openD S D.I yo = g at *
  obtain ⟨g1, g2⟩ := g
  simp only at OP h3 WI
  subst h3
  go_enter Tryz.func42, Tryz.ntmps42
  go_upto_region 5 with (first | go_big_skip | (first | go_big_skip | ((with_reducible apply wpList_loadAll HO); exact rfl; exact rfl; (repeat (with_reducible (first | exact At.head _ | apply At.tail))); infer_instance; exact rfl; exact rfl; (simp only [Act.put, zA, zB, zC])) | ((with_reducible apply wpList_loadOne HO); exact rfl; exact rfl; (repeat (with_reducible (first | exact At.head _ | apply At.tail))); exact rfl; infer_instance; exact rfl; (simp only [Act.put, zA, zB, zC]))) | (first | ((with_reducible apply wpList_boxAgg _ HO rfl); exact rfl; exact rfl; exact rfl; clear HO; intro b5 w HO; (simp only [Act.put, zA, zB, zC])) | ((with_reducible apply wpList_allocAgg _ HO rfl); exact rfl; infer_instance; exact rfl; clear HO; intro b5 w HO; (simp only [Act.put, zA, zB, zC]))) | (go_at_call 101; go_must ((with_reducible refine (N.out _ (DA.out _ [_] HO)).mono ?_); rintro e w ⟨rfl, hb⟩; replace HO := HO.call hb; clear hb)) | (go_at_call 104; go_must ((with_reducible refine (WH _).mono ?_); rintro e w ⟨rfl, hb⟩; replace HO := HO.call hb; clear hb)))
  go_upto_region 16 with (first | go_big_skip | (first | go_big_skip | ((with_reducible apply wpList_loadAll HO); exact rfl; exact rfl; (repeat (with_reducible (first | exact At.head _ | apply At.tail))); infer_instance; exact rfl; exact rfl; (simp only [Act.put, zA, zB, zC])) | ((with_reducible apply wpList_loadOne HO); exact rfl; exact rfl; (repeat (with_reducible (first | exact At.head _ | apply At.tail))); exact rfl; infer_instance; exact rfl; (simp only [Act.put, zA, zB, zC]))) | ((with_reducible apply wpList_storeAll HO); exact rfl; exact rfl; exact rfl; (repeat (with_reducible (first | exact At.head _ | apply At.tail))); infer_instance; exact rfl; exact rfl; exact rfl; exact rfl; clear HO; intro w HO; (simp only [Act.put])) | ((with_reducible apply wpList_storeOne HO); exact rfl; exact rfl; (first | (simp [Act.eval]; rfl) | exact rfl); exact rfl; (repeat (with_reducible (first | exact At.head _ | apply At.tail))); infer_instance; exact (by simp); (simp only [List.set_cons_succ, List.set_cons_zero]; rfl); exact rfl; clear HO; intro w HO; (simp only [Act.put])) | (first | ((with_reducible apply wpList_boxAgg _ HO rfl); exact rfl; exact rfl; exact rfl; clear HO; intro b8 w HO; (simp only [Act.put, zA, zB, zC])) | ((with_reducible apply wpList_allocAgg _ HO rfl); exact rfl; infer_instance; exact rfl; clear HO; intro b8 w HO; (simp only [Act.put, zA, zB, zC]))) | (go_at_call 101; go_must ((with_reducible refine (N.out _ (DA.out _ [_] HO)).mono ?_); rintro e w ⟨rfl, hb⟩; replace HO := HO.call hb; clear hb)) | (go_at_call 104; go_must ((with_reducible refine (WH _).mono ?_); rintro e w ⟨rfl, hb⟩; replace HO := HO.call hb; clear hb)) | (go_at_call 36; go_must ((with_reducible refine (OR.out _ (CA.out _ [_] HO)).mono ?_); rintro e w ⟨rfl, hb⟩; replace HO := HO.call hb; clear hb)) | (go_at_call 41; go_must ((with_reducible refine (OP.out _ (DA.out _ [_, _] HO) (CA.out _ [_, _] HO)).mono ?_); rintro e w ⟨rfl, hb⟩; replace HO := HO.call hb; clear hb)) | (go_at_call 105; go_must ((with_reducible refine (EN _).mono ?_); rintro e w ⟨rfl, hb⟩; replace HO := HO.call hb; clear hb)) | (go_at_call 106; go_must ((with_reducible refine (WI _).mono ?_); rintro e w ⟨rfl, hb⟩; replace HO := HO.call hb; clear hb)))
  replace HO := HO.tail
  clear DA CA N OP OR WH EN WI
  refine region_sched2 ([box b5 (.cells #[.string ⟨yb.toArray⟩, .int .i64 yo, .int .i64 ya, .int .i64 1] 82), box t (.cells #[.slice p D.I.length c, .pointer (some ⟨k, 0, none⟩)] 96)]) [(0, true), (1, true), (2, true), (3, true), (4, true), (5, true), (6, false), (7, false), (8, true), (9, true), (10, false)] HO (by with_reducible (repeat (first | exact List.nil_sublist _ | apply List.Sublist.cons_cons | apply List.Sublist.cons))) (by kernel_rfl) (by kernel_rfl) ?_
  clear HO
  intro w HO
  repeat (first | ((with_reducible apply wpSched_loadOne); exact rfl; exact rfl; exact rfl; (repeat (with_reducible (first | exact At.head _ | apply At.tail))); exact rfl; infer_instance; exact rfl; (simp only [Act.put, zA, zB, zC])) | ((with_reducible apply wpSched_loadAll); exact rfl; exact rfl; exact rfl; (repeat (with_reducible (first | exact At.head _ | apply At.tail))); infer_instance; exact rfl; exact rfl; (simp only [Act.put, zA, zB, zC])) | ((with_reducible apply wpSched_pure); exact rfl; exact rfl; (intro w'; go_simp; try with_reducible rfl); (simp only [Act.put, zA, zB, zC])))
  ((with_reducible apply wpSched_loud); exact rfl; (first | ((with_reducible apply wpList_lit1 HO); exact rfl; infer_instance; infer_instance; exact rfl; exact rfl; exact (by decide); exact rfl; clear HO; intro bl w HO; (simp only [Act.put, zA, zB, zC])) | ((with_reducible apply wpList_lit1c HO); exact rfl; infer_instance; infer_instance; (first | (simp [Act.eval]; rfl) | exact rfl); exact rfl; exact rfl; clear HO; intro bl w HO; (simp only [Act.put, zA, zB, zC]))))
  refine wpList_nil (thenQ_keep (HO.held (by with_reducible (repeat (first | exact List.nil_sublist _ | apply List.Sublist.cons_cons | apply List.Sublist.cons)))) ?_)
  ((with_reducible apply wpSched_loud); exact rfl; ((with_reducible apply wpList_push1 HO); exact rfl; infer_instance; infer_instance; (first | (simp [Act.eval]; rfl) | exact rfl); exact rfl; intro _; (repeat (with_reducible (first | exact At.head _ | apply At.tail))); exact rfl; exact rfl; (first | omega | (simp; omega)); decide; exact rfl; clear HO; intro v2 w HO hv2; (simp only [Act.put, zA, zB, zC])))
  obtain ⟨p2, n2, c2, rfl⟩ := hv2
  obtain ⟨⟨p3, c3, hv3⟩, -⟩ := HO.rowForm (t := 82) (k := 4) (v := .slice p2 n2 c2) (by (repeat (with_reducible (first | exact At.head _ | apply At.tail))))
  cases hv3
  simp only [List.length_append, List.length_map, List.length_cons, List.length_nil, Nat.zero_add] at HO ⊢
  refine wpList_nil (thenQ_keep (HO.held (by with_reducible (repeat (first | exact List.nil_sublist _ | apply List.Sublist.cons_cons | apply List.Sublist.cons)))) ?_)
  repeat (first | ((with_reducible apply wpSched_loadOne); exact rfl; exact rfl; exact rfl; (repeat (with_reducible (first | exact At.head _ | apply At.tail))); exact rfl; infer_instance; exact rfl; (simp only [Act.put, zA, zB, zC])) | ((with_reducible apply wpSched_loadAll); exact rfl; exact rfl; exact rfl; (repeat (with_reducible (first | exact At.head _ | apply At.tail))); infer_instance; exact rfl; exact rfl; (simp only [Act.put, zA, zB, zC])) | ((with_reducible apply wpSched_pure); exact rfl; exact rfl; (intro w'; go_simp; try with_reducible rfl); (simp only [Act.put, zA, zB, zC])))
  ((with_reducible apply wpSched_loud); exact rfl; ((with_reducible apply wpList_storeOne HO); exact rfl; exact rfl; (first | (simp [Act.eval]; rfl) | exact rfl); exact rfl; (repeat (with_reducible (first | exact At.head _ | apply At.tail))); infer_instance; exact (by simp); (simp only [List.set_cons_zero]; rfl); exact rfl; clear HO; intro w HO; (simp only [Act.put])))
  refine wpList_nil (thenQ_free (by kernel_rfl) ?_)
  refine wpSched_end ?_
  go_wp2_with (first | go_big_skip | (first | go_big_skip | ((with_reducible apply wpList_loadAll HO); exact rfl; exact rfl; (repeat (with_reducible (first | exact At.head _ | apply At.tail))); infer_instance; exact rfl; exact rfl; (simp only [Act.put, zA, zB, zC])) | ((with_reducible apply wpList_loadOne HO); exact rfl; exact rfl; (repeat (with_reducible (first | exact At.head _ | apply At.tail))); exact rfl; infer_instance; exact rfl; (simp only [Act.put, zA, zB, zC]))))
  go_ret2
  refine ⟨by first | rfl | (congr 3) | (congr 3; omega), .slice p2 (D.I.length + 1) c2, ?_⟩
  show Own W w (box t (.cells #[.slice p2 (D.I.length + 1) c2, .pointer (some ⟨k, 0, none⟩)] 96) :: row 82 4 (.slice p2 (D.I.length + 1) c2) ((D.I ++ [({ b := yb, o := yo, a := ya, s := 1 } : ItemS)]).map itemC) :: bkE k u pm bm D.P :: M)
  rw [hpc.out]
  exact HO.tail
end Go.Proofs.YtibabfedpdoofaaGreatDoor

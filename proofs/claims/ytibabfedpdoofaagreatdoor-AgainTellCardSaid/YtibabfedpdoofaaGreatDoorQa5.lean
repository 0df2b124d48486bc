/-
  What the saga's simple functions compute, by walking both texts; conditions: none.
  Which deeds are asked for again, by walking both texts; conditions: the sagas lie in memory, the table of parties as laid.
  What a core has, and is asked, by walking the program's text; conditions: int64 numbers.
  Whether two statements are the same, by walking the program's text and slices.EqualFunc's; conditions: the rows lie in memory.
  The newest statement of a party, and whether two intakes are the same, by walking the program's text; conditions: the rows lie in memory. (Printed by wip/mkintnew.py.)
  What the document's intake says of a deed, and of an order; whether both are alike, by walking the texts; conditions: the rows lie in memory. (Printed by wip/mkintref.py.)
  Whether an intake is the document's, and whether statements are too great, by walking the law's text; conditions: the rows lie in memory.
-/
import Derived.BigGuardPart
import Derived.Test.YtibabfedpdoofaaGreatDoorQa1
import Derived.Test.YtibabfedpdoofaaGreatDoorQa2
import Derived.Test.YtibabfedpdoofaaGreatDoorQa3
import Derived.Test.YtibabfedpdoofaaGreatDoorQa4
namespace Go.Proofs.YtibabfedpdoofaaGreatDoor
open Go.RowKit Go.Own

/-- How each deed is. -/
structure D6 where
  a : Int
  b : Int
  c : Int
  d : Int
  e : Int
  f : Int
  x : Bool
deriving DecidableEq
/-- The order that a saga is of. -/
structure OrdS where
  id : Int
  ref : List UInt8
  sku : List UInt8
  qty : Int
  amt : Int
def sagaV (o : OrdS) (s : D6) : Value := .agg #[.int .i64 o.id, .string ⟨o.ref.toArray⟩, .string ⟨o.sku.toArray⟩, .int .i64 o.qty, .int .i64 o.amt,
  .int .i64 s.a, .int .i64 s.b, .int .i64 s.c, .int .i64 s.d, .int .i64 s.e, .int .i64 s.f, .bool s.x]
def ordV (o : OrdS) : Value := .agg #[.int .i64 o.id, .string ⟨o.ref.toArray⟩, .string ⟨o.sku.toArray⟩, .int .i64 o.qty, .int .i64 o.amt]

def waitsOf (s : D6) : Int × Bool := if s.a = 1 then (0, true) else if s.b = 1 then (1, true) else if s.c = 1 then (2, true) else if s.d = 1 then (3, true) else if s.e = 1 then (4, true) else if s.f = 1 then (5, true) else (0, false)
def backOf (s : D6) : Bool := s.x || decide (s.a = 3) || decide (s.b = 3) || decide (s.c = 3)

set_option maxHeartbeats 2000000 in
set_option maxRecDepth 100000 in
theorem waits_any (o : OrdS) (s : D6) (w : World) : Calls Tryz.prog 98 #[sagaV o s] w fun e w' => e = .returned (.tuple #[.int .i64 (waitsOf s).1, .bool (waitsOf s).2]) ∧ Below w.heap.size w w' := by
  obtain ⟨a, b, c, d, e, f, x⟩ := s
  simp only [sagaV]
  have HQ := Lib.hid (show waitsOf ⟨a, b, c, d, e, f, x⟩ = waitsOf ⟨a, b, c, d, e, f, x⟩ from rfl)
  conv at HQ => arg 1; rhs; unfold waitsOf
  simp only at HQ
  have i0 : ∀ w, (Instr.index 70 (.agg #[.int .i64 a, .int .i64 b, .int .i64 c, .int .i64 d, .int .i64 e, .int .i64 f]) (.int .i64 0)).run Tryz.prog w = .ok (.int .i64 a) w := fun _ => by kernel_rfl
  have i1 : ∀ w, (Instr.index 70 (.agg #[.int .i64 a, .int .i64 b, .int .i64 c, .int .i64 d, .int .i64 e, .int .i64 f]) (.int .i64 1)).run Tryz.prog w = .ok (.int .i64 b) w := fun _ => by kernel_rfl
  have i2 : ∀ w, (Instr.index 70 (.agg #[.int .i64 a, .int .i64 b, .int .i64 c, .int .i64 d, .int .i64 e, .int .i64 f]) (.int .i64 2)).run Tryz.prog w = .ok (.int .i64 c) w := fun _ => by kernel_rfl
  have i3 : ∀ w, (Instr.index 70 (.agg #[.int .i64 a, .int .i64 b, .int .i64 c, .int .i64 d, .int .i64 e, .int .i64 f]) (.int .i64 3)).run Tryz.prog w = .ok (.int .i64 d) w := fun _ => by kernel_rfl
  have i4 : ∀ w, (Instr.index 70 (.agg #[.int .i64 a, .int .i64 b, .int .i64 c, .int .i64 d, .int .i64 e, .int .i64 f]) (.int .i64 4)).run Tryz.prog w = .ok (.int .i64 e) w := fun _ => by kernel_rfl
  have i5 : ∀ w, (Instr.index 70 (.agg #[.int .i64 a, .int .i64 b, .int .i64 c, .int .i64 d, .int .i64 e, .int .i64 f]) (.int .i64 5)).run Tryz.prog w = .ok (.int .i64 f) w := fun _ => by kernel_rfl
  go_enter Tryz.func98, Tryz.ntmps98
  go_wp2_with fail
  refine wp_loop_rounds 7 ?_
  rw [rounds_succ]
  go_wp2_with fail
  all_goals (try (rw [rounds_succ]; go_wp2_with fail))
  all_goals (try (rw [rounds_succ]; go_wp2_with fail))
  all_goals (try (rw [rounds_succ]; go_wp2_with fail))
  all_goals (try (rw [rounds_succ]; go_wp2_with fail))
  all_goals (try (rw [rounds_succ]; go_wp2_with fail))
  all_goals (try (rw [rounds_succ]; go_wp2_with fail))
  all_goals go_ret2
  all_goals refine ⟨?_, (by with_reducible (repeat (first | assumption | exact Below.refl _ _ | refine Below.drew ?_ | refine below_drewN ?_ _ | refine Below.alloc ?_ (by first | (simp; done) | omega | (simp; omega)) _ | refine Below.setCell ?_ (by first | (simp; done) | omega | (simp; omega)) _ | refine Below.trans ?_ (Below.mono (by assumption) (by first | (simp; done) | omega | (simp; omega))))))⟩
  all_goals (rw [HQ.out]; clear i0 i1 i2 i3 i4 i5; simp_all)

set_option maxHeartbeats 2000000 in
set_option maxRecDepth 100000 in
theorem refWaits_any (o : OrdS) (s : D6) (w : World) : Calls Tryz.prog 118 #[sagaV o s] w fun e w' => e = .returned (.tuple #[.int .i64 (waitsOf s).1, .bool (waitsOf s).2]) ∧ Below w.heap.size w w' := by
  obtain ⟨a, b, c, d, e, f, x⟩ := s
  simp only [sagaV]
  have HQ := Lib.hid (show waitsOf ⟨a, b, c, d, e, f, x⟩ = waitsOf ⟨a, b, c, d, e, f, x⟩ from rfl)
  conv at HQ => arg 1; rhs; unfold waitsOf
  simp only at HQ
  go_enter Tryz.func118, Tryz.ntmps118
  go_wp2_with fail
  refine wp_loop_rounds 7 ?_
  rw [rounds_succ]
  go_wp2_with fail
  all_goals (try (rw [rounds_succ]; go_wp2_with fail))
  all_goals (try (rw [rounds_succ]; go_wp2_with fail))
  all_goals (try (rw [rounds_succ]; go_wp2_with fail))
  all_goals (try (rw [rounds_succ]; go_wp2_with fail))
  all_goals (try (rw [rounds_succ]; go_wp2_with fail))
  all_goals (try (rw [rounds_succ]; go_wp2_with fail))
  all_goals go_ret2
  all_goals refine ⟨?_, (by with_reducible (repeat (first | assumption | exact Below.refl _ _ | refine Below.drew ?_ | refine below_drewN ?_ _ | refine Below.alloc ?_ (by first | (simp; done) | omega | (simp; omega)) _ | refine Below.setCell ?_ (by first | (simp; done) | omega | (simp; omega)) _ | refine Below.trans ?_ (Below.mono (by assumption) (by first | (simp; done) | omega | (simp; omega))))))⟩
  all_goals (rw [HQ.out]; (first | (simp_all; done) | (simp_all; rw [Bool.eq_iff_iff]; simp; done) | (rw [Bool.eq_iff_iff]; simp_all; done) | (simp_all; omega) | grind))

set_option maxHeartbeats 2000000 in
set_option maxRecDepth 100000 in
theorem back_any (o : OrdS) (s : D6) (w : World) : Calls Tryz.prog 99 #[sagaV o s] w fun e w' => e = .returned (.bool (backOf s)) ∧ Below w.heap.size w w' := by
  obtain ⟨a, b, c, d, e, f, x⟩ := s
  simp only [sagaV]
  have HQ := Lib.hid (show backOf ⟨a, b, c, d, e, f, x⟩ = (x || decide (a = 3) || decide (b = 3) || decide (c = 3)) from rfl)
  cases x
  · by_cases ha : a = 3
    · subst ha
      go_enter Tryz.func99, Tryz.ntmps99
      go_wp2_with fail
      refine wp_loop_rounds 4 ?_
      rw [rounds_succ]
      go_wp2_with fail
      all_goals (try (rw [rounds_succ]; go_wp2_with fail))
      all_goals (try (rw [rounds_succ]; go_wp2_with fail))
      all_goals (try (rw [rounds_succ]; go_wp2_with fail))
      all_goals go_ret
      all_goals refine ⟨ret_bool ?_, (by with_reducible (repeat (first | assumption | exact Below.refl _ _ | refine Below.drew ?_ | refine below_drewN ?_ _ | refine Below.alloc ?_ (by first | (simp; done) | omega | (simp; omega)) _ | refine Below.setCell ?_ (by first | (simp; done) | omega | (simp; omega)) _ | refine Below.trans ?_ (Below.mono (by assumption) (by first | (simp; done) | omega | (simp; omega))))))⟩
      all_goals (rw [HQ.out]; (first | (simp_all; done) | (simp_all; rw [Bool.eq_iff_iff]; simp; done) | (rw [Bool.eq_iff_iff]; simp_all; done) | (simp_all; omega) | grind))
    · have hab : (a == 3) = false := by simpa using ha
      by_cases hb : b = 3
      · subst hb
        clear ha
        go_enter Tryz.func99, Tryz.ntmps99
        go_wp2_with fail
        refine wp_loop_rounds 4 ?_
        rw [rounds_succ]
        go_wp2_with fail
        all_goals (try (rw [rounds_succ]; go_wp2_with fail))
        all_goals (try (rw [rounds_succ]; go_wp2_with fail))
        all_goals (try (rw [rounds_succ]; go_wp2_with fail))
        all_goals go_ret
        all_goals refine ⟨ret_bool ?_, (by with_reducible (repeat (first | assumption | exact Below.refl _ _ | refine Below.drew ?_ | refine below_drewN ?_ _ | refine Below.alloc ?_ (by first | (simp; done) | omega | (simp; omega)) _ | refine Below.setCell ?_ (by first | (simp; done) | omega | (simp; omega)) _ | refine Below.trans ?_ (Below.mono (by assumption) (by first | (simp; done) | omega | (simp; omega))))))⟩
        all_goals (rw [HQ.out]; (first | (simp_all; done) | (simp_all; rw [Bool.eq_iff_iff]; simp; done) | (rw [Bool.eq_iff_iff]; simp_all; done) | (simp_all; omega) | grind))
      · have hbb : (b == 3) = false := by simpa using hb
        clear ha hb
        go_enter Tryz.func99, Tryz.ntmps99
        go_wp2_with fail
        refine wp_loop_rounds 4 ?_
        rw [rounds_succ]
        go_wp2_with fail
        all_goals (try (rw [rounds_succ]; go_wp2_with fail))
        all_goals (try (rw [rounds_succ]; go_wp2_with fail))
        all_goals (try (rw [rounds_succ]; go_wp2_with fail))
        all_goals go_ret
        all_goals refine ⟨ret_bool ?_, (by with_reducible (repeat (first | assumption | exact Below.refl _ _ | refine Below.drew ?_ | refine below_drewN ?_ _ | refine Below.alloc ?_ (by first | (simp; done) | omega | (simp; omega)) _ | refine Below.setCell ?_ (by first | (simp; done) | omega | (simp; omega)) _ | refine Below.trans ?_ (Below.mono (by assumption) (by first | (simp; done) | omega | (simp; omega))))))⟩
        all_goals (rw [HQ.out]; (first | (simp_all; done) | (simp_all; rw [Bool.eq_iff_iff]; simp; done) | (rw [Bool.eq_iff_iff]; simp_all; done) | (simp_all; omega) | grind))
  · go_enter Tryz.func99, Tryz.ntmps99
    go_wp2_with fail
    refine wp_loop_rounds 4 ?_
    rw [rounds_succ]
    go_wp2_with fail
    all_goals (try (rw [rounds_succ]; go_wp2_with fail))
    all_goals (try (rw [rounds_succ]; go_wp2_with fail))
    all_goals (try (rw [rounds_succ]; go_wp2_with fail))
    all_goals go_ret
    all_goals refine ⟨ret_bool ?_, (by with_reducible (repeat (first | assumption | exact Below.refl _ _ | refine Below.drew ?_ | refine below_drewN ?_ _ | refine Below.alloc ?_ (by first | (simp; done) | omega | (simp; omega)) _ | refine Below.setCell ?_ (by first | (simp; done) | omega | (simp; omega)) _ | refine Below.trans ?_ (Below.mono (by assumption) (by first | (simp; done) | omega | (simp; omega))))))⟩
    all_goals (rw [HQ.out]; (first | (simp_all; done) | (simp_all; rw [Bool.eq_iff_iff]; simp; done) | (rw [Bool.eq_iff_iff]; simp_all; done) | (simp_all; omega) | grind))

set_option maxHeartbeats 2000000 in
set_option maxRecDepth 100000 in
theorem refBack_any (o : OrdS) (s : D6) (w : World) : Calls Tryz.prog 124 #[sagaV o s] w fun e w' => e = .returned (.bool (backOf s)) ∧ Below w.heap.size w w' := by
  obtain ⟨a, b, c, d, e, f, x⟩ := s
  simp only [sagaV]
  have HQ := Lib.hid (show backOf ⟨a, b, c, d, e, f, x⟩ = (x || decide (a = 3) || decide (b = 3) || decide (c = 3)) from rfl)
  cases x
  · by_cases ha : a = 3
    · subst ha
      go_enter Tryz.func124, Tryz.ntmps124
      go_wp2_with fail
      all_goals go_ret
      all_goals refine ⟨ret_bool ?_, (by with_reducible (repeat (first | assumption | exact Below.refl _ _ | refine Below.drew ?_ | refine below_drewN ?_ _ | refine Below.alloc ?_ (by first | (simp; done) | omega | (simp; omega)) _ | refine Below.setCell ?_ (by first | (simp; done) | omega | (simp; omega)) _ | refine Below.trans ?_ (Below.mono (by assumption) (by first | (simp; done) | omega | (simp; omega))))))⟩
      all_goals (rw [HQ.out]; (first | (simp_all; done) | (simp_all; rw [Bool.eq_iff_iff]; simp; done) | (rw [Bool.eq_iff_iff]; simp_all; done) | (simp_all; omega) | grind))
    · have hab : (a == 3) = false := by simpa using ha
      by_cases hb : b = 3
      · subst hb
        clear ha
        go_enter Tryz.func124, Tryz.ntmps124
        go_wp2_with fail
        all_goals go_ret
        all_goals refine ⟨ret_bool ?_, (by with_reducible (repeat (first | assumption | exact Below.refl _ _ | refine Below.drew ?_ | refine below_drewN ?_ _ | refine Below.alloc ?_ (by first | (simp; done) | omega | (simp; omega)) _ | refine Below.setCell ?_ (by first | (simp; done) | omega | (simp; omega)) _ | refine Below.trans ?_ (Below.mono (by assumption) (by first | (simp; done) | omega | (simp; omega))))))⟩
        all_goals (rw [HQ.out]; (first | (simp_all; done) | (simp_all; rw [Bool.eq_iff_iff]; simp; done) | (rw [Bool.eq_iff_iff]; simp_all; done) | (simp_all; omega) | grind))
      · have hbb : (b == 3) = false := by simpa using hb
        clear ha hb
        go_enter Tryz.func124, Tryz.ntmps124
        go_wp2_with fail
        all_goals go_ret
        all_goals refine ⟨ret_bool ?_, (by with_reducible (repeat (first | assumption | exact Below.refl _ _ | refine Below.drew ?_ | refine below_drewN ?_ _ | refine Below.alloc ?_ (by first | (simp; done) | omega | (simp; omega)) _ | refine Below.setCell ?_ (by first | (simp; done) | omega | (simp; omega)) _ | refine Below.trans ?_ (Below.mono (by assumption) (by first | (simp; done) | omega | (simp; omega))))))⟩
        all_goals (rw [HQ.out]; (first | (simp_all; done) | (simp_all; rw [Bool.eq_iff_iff]; simp; done) | (rw [Bool.eq_iff_iff]; simp_all; done) | (simp_all; omega) | grind))
  · go_enter Tryz.func124, Tryz.ntmps124
    go_wp2_with fail
    all_goals go_ret
    all_goals refine ⟨ret_bool ?_, (by with_reducible (repeat (first | assumption | exact Below.refl _ _ | refine Below.drew ?_ | refine below_drewN ?_ _ | refine Below.alloc ?_ (by first | (simp; done) | omega | (simp; omega)) _ | refine Below.setCell ?_ (by first | (simp; done) | omega | (simp; omega)) _ | refine Below.trans ?_ (Below.mono (by assumption) (by first | (simp; done) | omega | (simp; omega))))))⟩
    all_goals (rw [HQ.out]; (first | (simp_all; done) | (simp_all; rw [Bool.eq_iff_iff]; simp; done) | (rw [Bool.eq_iff_iff]; simp_all; done) | (simp_all; omega) | grind))
end Go.Proofs.YtibabfedpdoofaaGreatDoor
namespace Go.Proofs.YtibabfedpdoofaaGreatDoor
open Go.RowKit Go.Own

def sagaL (x : OrdS × D6) : List Value := [.int .i64 x.1.id, .string ⟨x.1.ref.toArray⟩, .string ⟨x.1.sku.toArray⟩, .int .i64 x.1.qty, .int .i64 x.1.amt,
  .int .i64 x.2.a, .int .i64 x.2.b, .int .i64 x.2.c, .int .i64 x.2.d, .int .i64 x.2.e, .int .i64 x.2.f, .bool x.2.x]
end Go.Proofs.YtibabfedpdoofaaGreatDoor
namespace Go.Proofs.YtibabfedpdoofaaGreatDoor
open Go.RowKit Go.Own Go.Maps

/-- What a core is: its sagas, its postings. -/
structure CoS where
  L : List (OrdS × D6)
  P : List Pst
def coC (v : Value) (k : Nat) (A : InS) (v0 v1 v2 m : Value) : List Value := [v, .pointer (some ⟨k, 0, none⟩), .int .i64 A.p0, .int .i64 A.q0, v0, .int .i64 A.p1, .int .i64 A.q1, v1, .int .i64 A.p2, .int .i64 A.q2, v2, m]
/-- Where a core lies: its block, its sagas' slice, the books' block, slice and maps. -/
structure CoA where
  c : Nat
  v : Value
  k : Nat
  u : Value
  pm : Nat
  bm : Nat
/-- Where an intake lies. -/
structure InA where
  v0 : Value
  v1 : Value
  v2 : Value
  m : Value
structure CoAt (w : World) (a : CoA) (S : CoS) (i : InA) (A : InS) : Prop where
  box : w.heap[a.c]? = some (.cells (coC a.v a.k A i.v0 i.v1 i.v2 i.m).toArray 143)
  row : IsL w 12 a.v (S.L.map sagaL)
  bk : BkAt w a.k a.u a.pm a.bm S.P
theorem CoAt.below {w w' : World} {a : CoA} {S : CoS} {i : InA} {A : InS} (h : CoAt w a S i A) (hb : Below w.heap.size w w') : CoAt w' a S i A :=
  ⟨by rw [hb.block _ (old_lt h.box)]; exact h.box, h.row.below hb h.row.lt, h.bk.below hb⟩
set_option maxHeartbeats 4000000 in
theorem coNone_any {w : World} {a : CoA} {S : CoS} {i : InA} {A : InS} (h : CoAt w a S i A) : Calls Tryz.prog 66 #[.pointer (some ⟨a.c, 0, none⟩)] w fun e w' => e = .returned (.bool false) ∧ Below w.heap.size w w' := by
  have HO := Own.start w
  have h1 := old_cell h.box 1 rfl
  have hlt := old_lt h.box
  clear h
  go_enter Tryz.func66, Tryz.ntmps66
  go_wp2_with (first | go_big_skip | ((with_reducible apply wpList_loadOld1 HO); exact rfl; exact rfl; exact hlt; exact h1; infer_instance; exact rfl; (simp only [Act.put, zA, zB, zC])))
  go_ret
  exact ⟨rfl, HO.grown⟩

set_option maxHeartbeats 4000000 in
theorem coNoneNil_any (w : World) : Calls Tryz.prog 66 #[.pointer none] w fun e w' => e = .returned (.bool true) ∧ Below w.heap.size w w' := by
  have HO := Own.start w
  go_enter Tryz.func66, Tryz.ntmps66
  go_wp2_with fail
  go_ret
  exact ⟨rfl, HO.grown⟩

set_option maxHeartbeats 4000000 in
theorem coOrders_any {w : World} {a : CoA} {S : CoS} {i : InA} {A : InS} (h : CoAt w a S i A) : Calls Tryz.prog 15 #[.pointer (some ⟨a.c, 0, none⟩)] w fun e w' => e = .returned (.int .i64 (S.L.length : Int)) ∧ Below w.heap.size w w' := by
  have HO := Own.start w
  have N := fun w' (hb : Below w.heap.size w w') => coNone_any (h.below hb)
  obtain ⟨p, c, hv, hmx⟩ := h.row.slice
  rw [List.length_map] at hv
  have h0 := old_cell h.box 0 rfl
  have hlt := old_lt h.box
  rw [hv] at h0
  clear h
  go_enter Tryz.func15, Tryz.ntmps15
  go_wp2_with (first | go_big_skip | ((with_reducible apply wpList_loadOld1 HO); exact rfl; exact rfl; exact hlt; exact h0; infer_instance; exact rfl; (simp only [Act.put, zA, zB, zC])) | (go_at_call 66; go_must ((with_reducible refine (N _ HO.grown).mono ?_); rintro e w ⟨rfl, hb⟩; replace HO := HO.call hb; clear hb)))
  go_ret
  exact ⟨rfl, HO.grown⟩

set_option maxHeartbeats 4000000 in
theorem coOrdersNil_any (w : World) : Calls Tryz.prog 15 #[.pointer none] w fun e w' => e = .returned (.int .i64 0) ∧ Below w.heap.size w w' := by
  have HO := Own.start w
  have N := fun w => coNoneNil_any w
  go_enter Tryz.func15, Tryz.ntmps15
  go_wp2_with (first | go_big_skip | (go_at_call 66; go_must ((with_reducible refine (N _).mono ?_); rintro e w ⟨rfl, hb⟩; replace HO := HO.call hb; clear hb)))
  go_ret
  exact ⟨rfl, HO.grown⟩

set_option maxHeartbeats 4000000 in
theorem coBal_any {w : World} {a : CoA} {S : CoS} {i : InA} {A : InS} (h : CoAt w a S i A) {n o : Int} (hn : inI n = true) (ho : inI o = true) : Calls Tryz.prog 50 #[.pointer (some ⟨a.c, 0, none⟩), .int .i64 n, .int .i64 o] w fun e w' => e = .returned (.int .i64 (bal S.P n o)) ∧ Below w.heap.size w w' := by
  have HO := Own.start w
  have N := fun w' (hb : Below w.heap.size w w') => coNone_any (h.below hb)
  have B := fun w' (hb : Below w.heap.size w w') => bkBal_any (h.bk.below hb) hn ho
  have h1 := old_cell h.box 1 rfl
  have hlt := old_lt h.box
  clear h
  go_enter Tryz.func50, Tryz.ntmps50
  go_wp2_with (first | go_big_skip | ((with_reducible apply wpList_loadOld1 HO); exact rfl; exact rfl; exact hlt; exact h1; infer_instance; exact rfl; (simp only [Act.put, zA, zB, zC])) | (go_at_call 66; go_must ((with_reducible refine (N _ HO.grown).mono ?_); rintro e w ⟨rfl, hb⟩; replace HO := HO.call hb; clear hb)) | (go_at_call 52; go_must ((with_reducible refine (B _ HO.grown).mono ?_); rintro e w ⟨rfl, hb⟩; replace HO := HO.call hb; clear hb)))
  go_ret
  exact ⟨rfl, HO.grown⟩

def noSaga : Value := .agg #[.int .i64 0, .string ⟨#[]⟩, .string ⟨#[]⟩, .int .i64 0, .int .i64 0, .int .i64 0, .int .i64 0, .int .i64 0, .int .i64 0, .int .i64 0, .int .i64 0, .bool false]
/-- A core's answer to a number. -/
def ordAt (L : List (OrdS × D6)) (id : Int) : Option (OrdS × D6) := if 1 ≤ id then L[(id - 1).toNat]? else none
def ordR (x : Option (OrdS × D6)) : Value := match x with
  | some x => .tuple #[sagaV x.1 x.2, .int .i64 0]
  | none => .tuple #[noSaga, .int .i64 4]
theorem ordAt_no {L : List (OrdS × D6)} {id : Int} (h : id < 1 ∨ (L.length : Int) < id) : ordAt L id = none := by
  unfold ordAt
  split
  · exact List.getElem?_eq_none (by omega)
  · rfl
theorem ordAt_yes {L : List (OrdS × D6)} {id : Int} {j : Nat} (h : id = (j : Int) + 1) (hj : j < L.length) : ordAt L id = some L[j] := by
  subst h
  unfold ordAt
  rw [if_pos (by omega), show ((j : Int) + 1 - 1).toNat = j by omega, List.getElem?_eq_getElem hj]

set_option maxHeartbeats 8000000 in
set_option maxRecDepth 100000 in
theorem coOrder_any {w : World} {a : CoA} {S : CoS} {i : InA} {A : InS} (h : CoAt w a S i A) {id : Int} (hi : inI id = true) : Calls Tryz.prog 36 #[.pointer (some ⟨a.c, 0, none⟩), .int .i64 id] w fun e w' => e = .returned (ordR (ordAt S.L id)) ∧ Below w.heap.size w w' := by
  have HO := Own.start w
  have N := fun w' (hb : Below w.heap.size w w') => coNone_any (h.below hb)
  obtain ⟨p, c, hv, hmx⟩ := h.row.slice
  rw [List.length_map] at hv hmx
  have HR := Lib.hid h.row
  have h0 := old_cell h.box 0 rfl
  have hlt := old_lt h.box
  have hmx' : (S.L.length : Int) ≤ 9223372036854775807 := by unfold maxLen at hmx; omega
  have hi := inI_iff.1 hi
  rw [hv] at h0
  generalize ha : a.v = av at *
  subst hv
  clear h ha
  by_cases h1 : id < 1 ∨ (S.L.length : Int) < id
  · have HE := Lib.hid (ordAt_no h1)
    generalize ordAt S.L id = x at *
    obtain rfl := HE.out
    clear HE HR
    by_cases h2 : id < 1
    · clear h1
      go_enter Tryz.func36, Tryz.ntmps36
      go_wp2_with (first | go_big_skip | ((with_reducible apply wpList_loadOld1 HO); exact rfl; exact rfl; exact hlt; exact h0; infer_instance; exact rfl; (simp only [Act.put, zA, zB, zC])) | (first | go_big_skip | ((with_reducible apply wpList_loadAll HO); exact rfl; exact rfl; (repeat (with_reducible (first | exact At.head _ | apply At.tail))); infer_instance; exact rfl; exact rfl; (simp only [Act.put, zA, zB, zC])) | ((with_reducible apply wpList_loadOne HO); exact rfl; exact rfl; (repeat (with_reducible (first | exact At.head _ | apply At.tail))); exact rfl; infer_instance; exact rfl; (simp only [Act.put, zA, zB, zC]))) | ((with_reducible apply wpList_storeAll HO); exact rfl; exact rfl; exact rfl; (repeat (with_reducible (first | exact At.head _ | apply At.tail))); infer_instance; exact rfl; exact rfl; exact rfl; exact rfl; clear HO; intro w HO; (simp only [Act.put])) | (first | ((with_reducible apply wpList_boxAgg _ HO rfl); exact rfl; exact rfl; exact rfl; clear HO; intro b3 w HO; (simp only [Act.put, zA, zB, zC])) | ((with_reducible apply wpList_allocAgg _ HO rfl); exact rfl; infer_instance; exact rfl; clear HO; intro b3 w HO; (simp only [Act.put, zA, zB, zC]))) | (go_at_call 66; go_must ((with_reducible refine (N _ HO.grown).mono ?_); rintro e w ⟨rfl, hb⟩; replace HO := HO.call hb; clear hb)))
      refine bodyPost_ret (results_box HO rfl rfl (by (repeat (with_reducible (first | exact At.head _ | apply At.tail)))) inferInstance rfl rfl) rfl ?_
      exact ⟨rfl, HO.grown⟩
    · have h3 : (S.L.length : Int) < id := by omega
      clear h1
      go_enter Tryz.func36, Tryz.ntmps36
      go_wp2_with (first | go_big_skip | ((with_reducible apply wpList_loadOld1 HO); exact rfl; exact rfl; exact hlt; exact h0; infer_instance; exact rfl; (simp only [Act.put, zA, zB, zC])) | (first | go_big_skip | ((with_reducible apply wpList_loadAll HO); exact rfl; exact rfl; (repeat (with_reducible (first | exact At.head _ | apply At.tail))); infer_instance; exact rfl; exact rfl; (simp only [Act.put, zA, zB, zC])) | ((with_reducible apply wpList_loadOne HO); exact rfl; exact rfl; (repeat (with_reducible (first | exact At.head _ | apply At.tail))); exact rfl; infer_instance; exact rfl; (simp only [Act.put, zA, zB, zC]))) | ((with_reducible apply wpList_storeAll HO); exact rfl; exact rfl; exact rfl; (repeat (with_reducible (first | exact At.head _ | apply At.tail))); infer_instance; exact rfl; exact rfl; exact rfl; exact rfl; clear HO; intro w HO; (simp only [Act.put])) | (first | ((with_reducible apply wpList_boxAgg _ HO rfl); exact rfl; exact rfl; exact rfl; clear HO; intro b3 w HO; (simp only [Act.put, zA, zB, zC])) | ((with_reducible apply wpList_allocAgg _ HO rfl); exact rfl; infer_instance; exact rfl; clear HO; intro b3 w HO; (simp only [Act.put, zA, zB, zC]))) | (go_at_call 66; go_must ((with_reducible refine (N _ HO.grown).mono ?_); rintro e w ⟨rfl, hb⟩; replace HO := HO.call hb; clear hb)))
      refine bodyPost_ret (results_box HO rfl rfl (by (repeat (with_reducible (first | exact At.head _ | apply At.tail)))) inferInstance rfl rfl) rfl ?_
      exact ⟨rfl, HO.grown⟩
  · obtain ⟨j, hid⟩ : ∃ j : Nat, id = (j : Int) + 1 := ⟨(id - 1).toNat, by omega⟩
    have hj : j < S.L.length := by omega
    have hjI : (j : Int) < (S.L.length : Int) := by omega
    have n1 : ¬ (id < 1) := by omega
    have n2 : ¬ ((S.L.length : Int) < id) := by omega
    have e1 : IntKind.i64.wrap (id - 1) = (j : Int) := by rw [wrap_in (inI_iff.2 (by omega))]; omega
    have HE := Lib.hid (ordAt_yes (L := S.L) hid hj)
    obtain ⟨b, rfl, hst⟩ := oldAt HR.out rfl hj
    generalize ordAt S.L id = x at *
    generalize S.L[j] = y at *
    generalize S.L.length = n at *
    obtain rfl := HE.out
    obtain ⟨o, s⟩ := y
    unfold sagaL at hst
    replace hst := Lib.hid hst
    clear HE HR h1 hid
    go_enter Tryz.func36, Tryz.ntmps36
    go_wp2_with (first | go_big_skip | ((with_reducible apply wpList_loadOld1 HO); exact rfl; exact rfl; exact hlt; exact h0; infer_instance; exact rfl; (simp only [Act.put, zA, zB, zC])) | ((with_reducible apply wpList_loadAt HO); exact rfl; exact rfl; exact (fun w' h1 => hst.out w' h1.grown); infer_instance; exact rfl; exact rfl; (simp only [Act.put, zA, zB, zC])) | (first | go_big_skip | ((with_reducible apply wpList_loadAll HO); exact rfl; exact rfl; (repeat (with_reducible (first | exact At.head _ | apply At.tail))); infer_instance; exact rfl; exact rfl; (simp only [Act.put, zA, zB, zC])) | ((with_reducible apply wpList_loadOne HO); exact rfl; exact rfl; (repeat (with_reducible (first | exact At.head _ | apply At.tail))); exact rfl; infer_instance; exact rfl; (simp only [Act.put, zA, zB, zC]))) | ((with_reducible apply wpList_storeAll HO); exact rfl; exact rfl; exact rfl; (repeat (with_reducible (first | exact At.head _ | apply At.tail))); infer_instance; exact rfl; exact rfl; exact rfl; exact rfl; clear HO; intro w HO; (simp only [Act.put])) | (first | ((with_reducible apply wpList_boxAgg _ HO rfl); exact rfl; exact rfl; exact rfl; clear HO; intro b3 w HO; (simp only [Act.put, zA, zB, zC])) | ((with_reducible apply wpList_allocAgg _ HO rfl); exact rfl; infer_instance; exact rfl; clear HO; intro b3 w HO; (simp only [Act.put, zA, zB, zC]))) | (go_at_call 66; go_must ((with_reducible refine (N _ HO.grown).mono ?_); rintro e w ⟨rfl, hb⟩; replace HO := HO.call hb; clear hb)))
    refine bodyPost_ret (results_box HO rfl rfl (by (repeat (with_reducible (first | exact At.head _ | apply At.tail)))) inferInstance rfl rfl) rfl ?_
    exact ⟨rfl, HO.grown⟩

end Go.Proofs.YtibabfedpdoofaaGreatDoor
namespace Go.Proofs.YtibabfedpdoofaaGreatDoor
open Go.RowKit Go.Own

end Go.Proofs.YtibabfedpdoofaaGreatDoor
namespace Go.Proofs.YtibabfedpdoofaaGreatDoor
open Go.RowKit Go.Own Go.Maps

end Go.Proofs.YtibabfedpdoofaaGreatDoor
namespace Go.Proofs.YtibabfedpdoofaaGreatDoor
open Go.RowKit Go.Own Go.Maps

theorem find_step {α : Type} {f : α → Bool} {l : List α} {j : Nat} (hj : j < l.length) (h : (l.take j).find? f = none) : (f l[j] = true → l.find? f = some l[j]) ∧ (f l[j] = false → (l.take (j + 1)).find? f = none) := by
  constructor
  · intro hf
    have h2 : (l.take j ++ l.drop j).find? f = some l[j] := by rw [List.find?_append, h, List.drop_eq_getElem_cons hj, List.find?_cons, hf]; rfl
    rwa [List.take_append_drop] at h2
  · intro hf
    rw [List.take_succ_eq_append_getElem hj, List.find?_append, h]
    simp [hf]

set_option maxHeartbeats 8000000 in
set_option maxRecDepth 100000 in
theorem refRow_any {W : World} {v0 v1 v2 : Value} (A : InS) (o d : Int) (h0 : IsRows W v0 A.r0) (h1 : IsRows W v1 A.r1) (h2 : IsRows W v2 A.r2) :
    Calls Tryz.prog 137 #[.agg #[.int .i64 (A).p0, .int .i64 (A).q0, v0, .int .i64 (A).p1, .int .i64 (A).q1, v1, .int .i64 (A).p2, .int .i64 (A).q2, v2], .agg #[.int .i64 o, .int .i64 d]] W fun e w' => e = .returned (.tuple #[rowT (rowOf A o d), .bool (rowOf A o d).isSome]) ∧ Below W.heap.size W w' := by
  have K := fun w => refKeyCheck_any o d w
  have PA := fun w => refParty_any d w
  have HO := Own.start W
  cases hk : keyOk o d
  · have HQ := Lib.hid (show rowOf A o d = none by simp [rowOf, hk])
    rw [hk] at K
    obtain ⟨s0, c0, rfl, -⟩ := h0.slice
    obtain ⟨s1, c1, rfl, -⟩ := h1.slice
    obtain ⟨s2, c2, rfl, -⟩ := h2.slice
    generalize A.r0.length = n0 at *
    generalize A.r1.length = n1 at *
    generalize A.r2.length = n2 at *
    clear h0 h1 h2 hk PA
    go_enter Tryz.func137, Tryz.ntmps137
    go_wp2_with (first | ((with_reducible apply wpList_boxAgg _ HO rfl); exact rfl; exact rfl; exact rfl; clear HO; intro b2 w HO; (simp only [Act.put, zA, zB, zC])) | (first | go_big_skip | ((with_reducible apply wpList_loadAll HO); exact rfl; exact rfl; (repeat (with_reducible (first | exact At.head _ | apply At.tail))); infer_instance; exact rfl; exact rfl; (simp only [Act.put, zA, zB, zC])) | ((with_reducible apply wpList_loadOne HO); exact rfl; exact rfl; (repeat (with_reducible (first | exact At.head _ | apply At.tail))); exact rfl; infer_instance; exact rfl; (simp only [Act.put, zA, zB, zC]))) | ((with_reducible apply wpList_storeAll HO); exact rfl; exact rfl; exact rfl; (repeat (with_reducible (first | exact At.head _ | apply At.tail))); infer_instance; exact rfl; exact rfl; exact rfl; exact rfl; clear HO; intro w HO; (simp only [Act.put])) | ((with_reducible apply wpList_allocAgg _ HO rfl); exact rfl; infer_instance; exact rfl; clear HO; intro b4 w HO; (simp only [Act.put, zA, zB, zC])) | (go_at_call 161; go_must ((with_reducible refine (K _).mono ?_); rintro e w ⟨rfl, hb⟩; replace HO := HO.call hb; clear hb)))
    refine bodyPost_ret (results_box HO rfl rfl (by (repeat (with_reducible (first | exact At.head _ | apply At.tail)))) inferInstance rfl rfl) rfl ?_
    rw [HQ.out]
    exact ⟨rfl, HO.grown⟩
  · have hd : 0 ≤ d ∧ d < 6 := by simp only [keyOk, isDeed, Bool.and_eq_true, decide_eq_true_eq] at hk; omega
    have hp : partyOf d = 0 ∨ partyOf d = 1 ∨ partyOf d = 2 := by unfold partyOf; omega
    have HQ := Lib.hid (show rowOf A o d = (A.rows (partyOf d)).find? (fun r => decide (r.o = o) && decide (r.d = d)) by simp [rowOf, hk])
    rw [hk] at K
    clear hk hd
    rcases hp with hp | hp | hp
    · rw [hp] at PA HQ
      have HQ2 := Lib.hid (show rowOf A o d = A.r0.find? (fun r => decide (r.o = o) && decide (r.d = d)) from HQ.out)
      have HH := Lib.hid h0
      obtain ⟨s0, c0, rfl, -⟩ := h0.slice
      obtain ⟨s1, c1, rfl, -⟩ := h1.slice
      obtain ⟨s2, c2, rfl, -⟩ := h2.slice
      have hmx : (A.r0.length : Int) ≤ 9223372036854775807 := by have := h0.slice; obtain ⟨_, _, _, hm⟩ := this; unfold maxLen at hm; omega
      generalize A.r0 = rs at *
      generalize rowOf A o d = z at *
      clear h0 h1 h2 hp HQ
      go_enter Tryz.func137, Tryz.ntmps137
      go_wp2_with (first | ((have _h : Own W _ (box _ _ :: _) := HO); clear _h; ((with_reducible apply wpList_boxAgg _ HO rfl); exact rfl; exact rfl; exact rfl; clear HO; intro b3 w HO; (simp only [Act.put, zA, zB, zC]))) | ((with_reducible apply wpList_boxAgg _ HO rfl); exact rfl; exact rfl; exact rfl; clear HO; intro b2 w HO; (simp only [Act.put, zA, zB, zC])) | (first | go_big_skip | ((with_reducible apply wpList_loadAll HO); exact rfl; exact rfl; (repeat (with_reducible (first | exact At.head _ | apply At.tail))); infer_instance; exact rfl; exact rfl; (simp only [Act.put, zA, zB, zC])) | ((with_reducible apply wpList_loadOne HO); exact rfl; exact rfl; (repeat (with_reducible (first | exact At.head _ | apply At.tail))); exact rfl; infer_instance; exact rfl; (simp only [Act.put, zA, zB, zC]))) | ((with_reducible apply wpList_storeAll HO); exact rfl; exact rfl; exact rfl; (repeat (with_reducible (first | exact At.head _ | apply At.tail))); infer_instance; exact rfl; exact rfl; exact rfl; exact rfl; clear HO; intro w HO; (simp only [Act.put])) | ((with_reducible apply wpList_loadPart HO); exact rfl; exact rfl; (repeat (with_reducible (first | exact At.head _ | apply At.tail))); infer_instance; exact (Nat.le_of_ble_eq_true rfl); (simp only [List.drop_succ_cons, List.drop_zero, List.take_succ_cons, List.take_zero]; rfl); exact rfl; (simp only [Act.put, zA, zB, zC])) | ((with_reducible apply wpList_allocAgg _ HO rfl); exact rfl; infer_instance; exact rfl; clear HO; intro b4 w HO; (simp only [Act.put, zA, zB, zC])) | (go_at_call 161; go_must ((with_reducible refine (K _).mono ?_); rintro e w ⟨rfl, hb⟩; replace HO := HO.call hb; clear hb)) | (go_at_call 164; go_must ((with_reducible refine (PA _).mono ?_); rintro e w ⟨rfl, hb⟩; replace HO := HO.call hb; clear hb)))
      go_loopw [7] (fun i wr => ∃ j : Nat, j ≤ rs.length ∧ i = .int .i64 (j : Int) ∧ (rs.take j).find? (fun r => decide (r.o = o) && decide (r.d = d)) = none ∧ Own W wr [box b4 (.cells #[.int .i64 0, .int .i64 0, .int .i64 0, .int .i64 0, .int .i64 0] 160), box b3 (.cells #[.int .i64 o, .int .i64 d] 29)]) (fun i _ => rs.length - (intOf i).toNat)
      case atStart => exact ⟨0, by omega, rfl, rfl, HO.sub (by with_reducible (repeat (first | exact List.Sublist.refl _ | apply List.Sublist.cons_cons | apply List.Sublist.cons)))⟩
      case round =>
        clear HO
        obtain ⟨j, hj, rfl, hf, HO⟩ := hrel
        by_cases hjl : j < rs.length
        · have hjI : (j : Int) < (rs.length : Int) := by omega
          obtain ⟨a, rfl, hcell⟩ := oldRow HH.out rfl hjl
          have hst := find_step hjl hf
          generalize rs[j] = r at *
          obtain ⟨ro, rd, rc, ra, rq⟩ := r
          simp only at hst
          have HCK := Lib.hid (fun (w' : World) (h1 : Own W w' [box b4 (.cells #[.int .i64 0, .int .i64 0, .int .i64 0, .int .i64 0, .int .i64 0] 160), box b3 (.cells #[.int .i64 o, .int .i64 d] 29)]) => (show ∀ i u, [Value.int .i64 ro, .int .i64 rd][i]? = some u → w'.cell? ((a.add (j * 5)).add i) = some u from fun i u hu => hcell w' _ h1 i u (by match i, hu with | 0, hu => exact hu | 1, hu => exact hu)))
          have HCR := Lib.hid (fun (w' : World) (h1 : Own W w' [box b4 (.cells #[.int .i64 0, .int .i64 0, .int .i64 0, .int .i64 0, .int .i64 0] 160), box b3 (.cells #[.int .i64 o, .int .i64 d] 29)]) => hcell w' _ h1)
          have RK := fun w => run_key_eql ro rd o d w
          have HST := Lib.hid hst
          clear hst hcell hf
          generalize hB : (decide (ro = o) && decide (rd = d)) = B at *
          clear hB
          go_wp2_with fail
          refine region_own HO (by kernel_rfl) (by kernel_rfl) ?_
          clear HO
          intro F HF
          repeat (first | (first | (first | go_big_quiet_skip | ((with_reducible apply wpQuiet_loadAll HF); exact rfl; exact rfl; (repeat (with_reducible (first | exact At.head _ | apply At.tail))); infer_instance; exact rfl; exact rfl; (simp only [Act.put, zA, zB, zC])) | ((with_reducible apply wpQuiet_loadOne HF); exact rfl; exact rfl; (repeat (with_reducible (first | exact At.head _ | apply At.tail))); exact rfl; infer_instance; exact rfl; (simp only [Act.put, zA, zB, zC])) | ((with_reducible apply wpQuiet_loadPart HF); exact rfl; exact rfl; (repeat (with_reducible (first | exact At.head _ | apply At.tail))); infer_instance; exact (Nat.le_of_ble_eq_true rfl); (simp only [List.drop_succ_cons, List.drop_zero, List.take_succ_cons, List.take_zero]; rfl); exact rfl; (simp only [Act.put, zA, zB, zC]))) | ((with_reducible apply wpQuiet_loadAt HF); exact rfl; exact rfl; exact (HCK.out); infer_instance; exact rfl; exact rfl; (simp only [Act.put, zA, zB, zC]))) | go_big_quiet_step (fail))
          refine wpQuiet_nil ?_
          intro x
          have HO := HF.own x
          clear HF
          generalize F x = w at *
          clear x F
          cases B
          · go_wp2_with fail
            go_roundw
            case rel => exact ⟨j + 1, by omega, by go_num, HST.out.2 (by first | rfl | trivial), HO⟩
            case measure => simp [intOf] <;> omega
          · go_wp2_with (first | (first | go_big_skip | ((with_reducible apply wpList_loadAll HO); exact rfl; exact rfl; (repeat (with_reducible (first | exact At.head _ | apply At.tail))); infer_instance; exact rfl; exact rfl; (simp only [Act.put, zA, zB, zC])) | ((with_reducible apply wpList_loadOne HO); exact rfl; exact rfl; (repeat (with_reducible (first | exact At.head _ | apply At.tail))); exact rfl; infer_instance; exact rfl; (simp only [Act.put, zA, zB, zC]))) | ((with_reducible apply wpList_storeAll HO); exact rfl; exact rfl; exact rfl; (repeat (with_reducible (first | exact At.head _ | apply At.tail))); infer_instance; exact rfl; exact rfl; exact rfl; exact rfl; clear HO; intro w HO; (simp only [Act.put])) | ((with_reducible apply wpList_loadAt HO); exact rfl; exact rfl; exact (HCR.out); infer_instance; exact rfl; exact rfl; (simp only [Act.put, zA, zB, zC])))
            refine bodyPost_ret (results_box HO rfl rfl (by (repeat (with_reducible (first | exact At.head _ | apply At.tail)))) inferInstance rfl rfl) rfl ?_
            rw [HQ2.out, HST.out.1 (by first | rfl | trivial)]
            exact ⟨rfl, HO.grown⟩
        · obtain rfl : j = rs.length := by omega
          rw [List.take_length] at hf
          have HF := Lib.hid hf
          clear hf
          go_wp2_with (first | (first | go_big_skip | ((with_reducible apply wpList_loadAll HO); exact rfl; exact rfl; (repeat (with_reducible (first | exact At.head _ | apply At.tail))); infer_instance; exact rfl; exact rfl; (simp only [Act.put, zA, zB, zC])) | ((with_reducible apply wpList_loadOne HO); exact rfl; exact rfl; (repeat (with_reducible (first | exact At.head _ | apply At.tail))); exact rfl; infer_instance; exact rfl; (simp only [Act.put, zA, zB, zC]))) | ((with_reducible apply wpList_storeAll HO); exact rfl; exact rfl; exact rfl; (repeat (with_reducible (first | exact At.head _ | apply At.tail))); infer_instance; exact rfl; exact rfl; exact rfl; exact rfl; clear HO; intro w HO; (simp only [Act.put])))
          refine bodyPost_ret (results_box HO rfl rfl (by (repeat (with_reducible (first | exact At.head _ | apply At.tail)))) inferInstance rfl rfl) rfl ?_
          rw [HQ2.out, HF.out]
          exact ⟨rfl, HO.grown⟩
    · rw [hp] at PA HQ
      have HQ2 := Lib.hid (show rowOf A o d = A.r1.find? (fun r => decide (r.o = o) && decide (r.d = d)) from HQ.out)
      have HH := Lib.hid h1
      obtain ⟨s0, c0, rfl, -⟩ := h0.slice
      obtain ⟨s1, c1, rfl, -⟩ := h1.slice
      obtain ⟨s2, c2, rfl, -⟩ := h2.slice
      have hmx : (A.r1.length : Int) ≤ 9223372036854775807 := by have := h1.slice; obtain ⟨_, _, _, hm⟩ := this; unfold maxLen at hm; omega
      generalize A.r1 = rs at *
      generalize rowOf A o d = z at *
      clear h0 h1 h2 hp HQ
      go_enter Tryz.func137, Tryz.ntmps137
      go_wp2_with (first | ((have _h : Own W _ (box _ _ :: _) := HO); clear _h; ((with_reducible apply wpList_boxAgg _ HO rfl); exact rfl; exact rfl; exact rfl; clear HO; intro b3 w HO; (simp only [Act.put, zA, zB, zC]))) | ((with_reducible apply wpList_boxAgg _ HO rfl); exact rfl; exact rfl; exact rfl; clear HO; intro b2 w HO; (simp only [Act.put, zA, zB, zC])) | (first | go_big_skip | ((with_reducible apply wpList_loadAll HO); exact rfl; exact rfl; (repeat (with_reducible (first | exact At.head _ | apply At.tail))); infer_instance; exact rfl; exact rfl; (simp only [Act.put, zA, zB, zC])) | ((with_reducible apply wpList_loadOne HO); exact rfl; exact rfl; (repeat (with_reducible (first | exact At.head _ | apply At.tail))); exact rfl; infer_instance; exact rfl; (simp only [Act.put, zA, zB, zC]))) | ((with_reducible apply wpList_storeAll HO); exact rfl; exact rfl; exact rfl; (repeat (with_reducible (first | exact At.head _ | apply At.tail))); infer_instance; exact rfl; exact rfl; exact rfl; exact rfl; clear HO; intro w HO; (simp only [Act.put])) | ((with_reducible apply wpList_loadPart HO); exact rfl; exact rfl; (repeat (with_reducible (first | exact At.head _ | apply At.tail))); infer_instance; exact (Nat.le_of_ble_eq_true rfl); (simp only [List.drop_succ_cons, List.drop_zero, List.take_succ_cons, List.take_zero]; rfl); exact rfl; (simp only [Act.put, zA, zB, zC])) | ((with_reducible apply wpList_allocAgg _ HO rfl); exact rfl; infer_instance; exact rfl; clear HO; intro b4 w HO; (simp only [Act.put, zA, zB, zC])) | (go_at_call 161; go_must ((with_reducible refine (K _).mono ?_); rintro e w ⟨rfl, hb⟩; replace HO := HO.call hb; clear hb)) | (go_at_call 164; go_must ((with_reducible refine (PA _).mono ?_); rintro e w ⟨rfl, hb⟩; replace HO := HO.call hb; clear hb)))
      go_loopw [7] (fun i wr => ∃ j : Nat, j ≤ rs.length ∧ i = .int .i64 (j : Int) ∧ (rs.take j).find? (fun r => decide (r.o = o) && decide (r.d = d)) = none ∧ Own W wr [box b4 (.cells #[.int .i64 0, .int .i64 0, .int .i64 0, .int .i64 0, .int .i64 0] 160), box b3 (.cells #[.int .i64 o, .int .i64 d] 29)]) (fun i _ => rs.length - (intOf i).toNat)
      case atStart => exact ⟨0, by omega, rfl, rfl, HO.sub (by with_reducible (repeat (first | exact List.Sublist.refl _ | apply List.Sublist.cons_cons | apply List.Sublist.cons)))⟩
      case round =>
        clear HO
        obtain ⟨j, hj, rfl, hf, HO⟩ := hrel
        by_cases hjl : j < rs.length
        · have hjI : (j : Int) < (rs.length : Int) := by omega
          obtain ⟨a, rfl, hcell⟩ := oldRow HH.out rfl hjl
          have hst := find_step hjl hf
          generalize rs[j] = r at *
          obtain ⟨ro, rd, rc, ra, rq⟩ := r
          simp only at hst
          have HCK := Lib.hid (fun (w' : World) (h1 : Own W w' [box b4 (.cells #[.int .i64 0, .int .i64 0, .int .i64 0, .int .i64 0, .int .i64 0] 160), box b3 (.cells #[.int .i64 o, .int .i64 d] 29)]) => (show ∀ i u, [Value.int .i64 ro, .int .i64 rd][i]? = some u → w'.cell? ((a.add (j * 5)).add i) = some u from fun i u hu => hcell w' _ h1 i u (by match i, hu with | 0, hu => exact hu | 1, hu => exact hu)))
          have HCR := Lib.hid (fun (w' : World) (h1 : Own W w' [box b4 (.cells #[.int .i64 0, .int .i64 0, .int .i64 0, .int .i64 0, .int .i64 0] 160), box b3 (.cells #[.int .i64 o, .int .i64 d] 29)]) => hcell w' _ h1)
          have RK := fun w => run_key_eql ro rd o d w
          have HST := Lib.hid hst
          clear hst hcell hf
          generalize hB : (decide (ro = o) && decide (rd = d)) = B at *
          clear hB
          go_wp2_with fail
          refine region_own HO (by kernel_rfl) (by kernel_rfl) ?_
          clear HO
          intro F HF
          repeat (first | (first | (first | go_big_quiet_skip | ((with_reducible apply wpQuiet_loadAll HF); exact rfl; exact rfl; (repeat (with_reducible (first | exact At.head _ | apply At.tail))); infer_instance; exact rfl; exact rfl; (simp only [Act.put, zA, zB, zC])) | ((with_reducible apply wpQuiet_loadOne HF); exact rfl; exact rfl; (repeat (with_reducible (first | exact At.head _ | apply At.tail))); exact rfl; infer_instance; exact rfl; (simp only [Act.put, zA, zB, zC])) | ((with_reducible apply wpQuiet_loadPart HF); exact rfl; exact rfl; (repeat (with_reducible (first | exact At.head _ | apply At.tail))); infer_instance; exact (Nat.le_of_ble_eq_true rfl); (simp only [List.drop_succ_cons, List.drop_zero, List.take_succ_cons, List.take_zero]; rfl); exact rfl; (simp only [Act.put, zA, zB, zC]))) | ((with_reducible apply wpQuiet_loadAt HF); exact rfl; exact rfl; exact (HCK.out); infer_instance; exact rfl; exact rfl; (simp only [Act.put, zA, zB, zC]))) | go_big_quiet_step (fail))
          refine wpQuiet_nil ?_
          intro x
          have HO := HF.own x
          clear HF
          generalize F x = w at *
          clear x F
          cases B
          · go_wp2_with fail
            go_roundw
            case rel => exact ⟨j + 1, by omega, by go_num, HST.out.2 (by first | rfl | trivial), HO⟩
            case measure => simp [intOf] <;> omega
          · go_wp2_with (first | (first | go_big_skip | ((with_reducible apply wpList_loadAll HO); exact rfl; exact rfl; (repeat (with_reducible (first | exact At.head _ | apply At.tail))); infer_instance; exact rfl; exact rfl; (simp only [Act.put, zA, zB, zC])) | ((with_reducible apply wpList_loadOne HO); exact rfl; exact rfl; (repeat (with_reducible (first | exact At.head _ | apply At.tail))); exact rfl; infer_instance; exact rfl; (simp only [Act.put, zA, zB, zC]))) | ((with_reducible apply wpList_storeAll HO); exact rfl; exact rfl; exact rfl; (repeat (with_reducible (first | exact At.head _ | apply At.tail))); infer_instance; exact rfl; exact rfl; exact rfl; exact rfl; clear HO; intro w HO; (simp only [Act.put])) | ((with_reducible apply wpList_loadAt HO); exact rfl; exact rfl; exact (HCR.out); infer_instance; exact rfl; exact rfl; (simp only [Act.put, zA, zB, zC])))
            refine bodyPost_ret (results_box HO rfl rfl (by (repeat (with_reducible (first | exact At.head _ | apply At.tail)))) inferInstance rfl rfl) rfl ?_
            rw [HQ2.out, HST.out.1 (by first | rfl | trivial)]
            exact ⟨rfl, HO.grown⟩
        · obtain rfl : j = rs.length := by omega
          rw [List.take_length] at hf
          have HF := Lib.hid hf
          clear hf
          go_wp2_with (first | (first | go_big_skip | ((with_reducible apply wpList_loadAll HO); exact rfl; exact rfl; (repeat (with_reducible (first | exact At.head _ | apply At.tail))); infer_instance; exact rfl; exact rfl; (simp only [Act.put, zA, zB, zC])) | ((with_reducible apply wpList_loadOne HO); exact rfl; exact rfl; (repeat (with_reducible (first | exact At.head _ | apply At.tail))); exact rfl; infer_instance; exact rfl; (simp only [Act.put, zA, zB, zC]))) | ((with_reducible apply wpList_storeAll HO); exact rfl; exact rfl; exact rfl; (repeat (with_reducible (first | exact At.head _ | apply At.tail))); infer_instance; exact rfl; exact rfl; exact rfl; exact rfl; clear HO; intro w HO; (simp only [Act.put])))
          refine bodyPost_ret (results_box HO rfl rfl (by (repeat (with_reducible (first | exact At.head _ | apply At.tail)))) inferInstance rfl rfl) rfl ?_
          rw [HQ2.out, HF.out]
          exact ⟨rfl, HO.grown⟩
    · rw [hp] at PA HQ
      have HQ2 := Lib.hid (show rowOf A o d = A.r2.find? (fun r => decide (r.o = o) && decide (r.d = d)) from HQ.out)
      have HH := Lib.hid h2
      obtain ⟨s0, c0, rfl, -⟩ := h0.slice
      obtain ⟨s1, c1, rfl, -⟩ := h1.slice
      obtain ⟨s2, c2, rfl, -⟩ := h2.slice
      have hmx : (A.r2.length : Int) ≤ 9223372036854775807 := by have := h2.slice; obtain ⟨_, _, _, hm⟩ := this; unfold maxLen at hm; omega
      generalize A.r2 = rs at *
      generalize rowOf A o d = z at *
      clear h0 h1 h2 hp HQ
      go_enter Tryz.func137, Tryz.ntmps137
      go_wp2_with (first | ((have _h : Own W _ (box _ _ :: _) := HO); clear _h; ((with_reducible apply wpList_boxAgg _ HO rfl); exact rfl; exact rfl; exact rfl; clear HO; intro b3 w HO; (simp only [Act.put, zA, zB, zC]))) | ((with_reducible apply wpList_boxAgg _ HO rfl); exact rfl; exact rfl; exact rfl; clear HO; intro b2 w HO; (simp only [Act.put, zA, zB, zC])) | (first | go_big_skip | ((with_reducible apply wpList_loadAll HO); exact rfl; exact rfl; (repeat (with_reducible (first | exact At.head _ | apply At.tail))); infer_instance; exact rfl; exact rfl; (simp only [Act.put, zA, zB, zC])) | ((with_reducible apply wpList_loadOne HO); exact rfl; exact rfl; (repeat (with_reducible (first | exact At.head _ | apply At.tail))); exact rfl; infer_instance; exact rfl; (simp only [Act.put, zA, zB, zC]))) | ((with_reducible apply wpList_storeAll HO); exact rfl; exact rfl; exact rfl; (repeat (with_reducible (first | exact At.head _ | apply At.tail))); infer_instance; exact rfl; exact rfl; exact rfl; exact rfl; clear HO; intro w HO; (simp only [Act.put])) | ((with_reducible apply wpList_loadPart HO); exact rfl; exact rfl; (repeat (with_reducible (first | exact At.head _ | apply At.tail))); infer_instance; exact (Nat.le_of_ble_eq_true rfl); (simp only [List.drop_succ_cons, List.drop_zero, List.take_succ_cons, List.take_zero]; rfl); exact rfl; (simp only [Act.put, zA, zB, zC])) | ((with_reducible apply wpList_allocAgg _ HO rfl); exact rfl; infer_instance; exact rfl; clear HO; intro b4 w HO; (simp only [Act.put, zA, zB, zC])) | (go_at_call 161; go_must ((with_reducible refine (K _).mono ?_); rintro e w ⟨rfl, hb⟩; replace HO := HO.call hb; clear hb)) | (go_at_call 164; go_must ((with_reducible refine (PA _).mono ?_); rintro e w ⟨rfl, hb⟩; replace HO := HO.call hb; clear hb)))
      go_loopw [7] (fun i wr => ∃ j : Nat, j ≤ rs.length ∧ i = .int .i64 (j : Int) ∧ (rs.take j).find? (fun r => decide (r.o = o) && decide (r.d = d)) = none ∧ Own W wr [box b4 (.cells #[.int .i64 0, .int .i64 0, .int .i64 0, .int .i64 0, .int .i64 0] 160), box b3 (.cells #[.int .i64 o, .int .i64 d] 29)]) (fun i _ => rs.length - (intOf i).toNat)
      case atStart => exact ⟨0, by omega, rfl, rfl, HO.sub (by with_reducible (repeat (first | exact List.Sublist.refl _ | apply List.Sublist.cons_cons | apply List.Sublist.cons)))⟩
      case round =>
        clear HO
        obtain ⟨j, hj, rfl, hf, HO⟩ := hrel
        by_cases hjl : j < rs.length
        · have hjI : (j : Int) < (rs.length : Int) := by omega
          obtain ⟨a, rfl, hcell⟩ := oldRow HH.out rfl hjl
          have hst := find_step hjl hf
          generalize rs[j] = r at *
          obtain ⟨ro, rd, rc, ra, rq⟩ := r
          simp only at hst
          have HCK := Lib.hid (fun (w' : World) (h1 : Own W w' [box b4 (.cells #[.int .i64 0, .int .i64 0, .int .i64 0, .int .i64 0, .int .i64 0] 160), box b3 (.cells #[.int .i64 o, .int .i64 d] 29)]) => (show ∀ i u, [Value.int .i64 ro, .int .i64 rd][i]? = some u → w'.cell? ((a.add (j * 5)).add i) = some u from fun i u hu => hcell w' _ h1 i u (by match i, hu with | 0, hu => exact hu | 1, hu => exact hu)))
          have HCR := Lib.hid (fun (w' : World) (h1 : Own W w' [box b4 (.cells #[.int .i64 0, .int .i64 0, .int .i64 0, .int .i64 0, .int .i64 0] 160), box b3 (.cells #[.int .i64 o, .int .i64 d] 29)]) => hcell w' _ h1)
          have RK := fun w => run_key_eql ro rd o d w
          have HST := Lib.hid hst
          clear hst hcell hf
          generalize hB : (decide (ro = o) && decide (rd = d)) = B at *
          clear hB
          go_wp2_with fail
          refine region_own HO (by kernel_rfl) (by kernel_rfl) ?_
          clear HO
          intro F HF
          repeat (first | (first | (first | go_big_quiet_skip | ((with_reducible apply wpQuiet_loadAll HF); exact rfl; exact rfl; (repeat (with_reducible (first | exact At.head _ | apply At.tail))); infer_instance; exact rfl; exact rfl; (simp only [Act.put, zA, zB, zC])) | ((with_reducible apply wpQuiet_loadOne HF); exact rfl; exact rfl; (repeat (with_reducible (first | exact At.head _ | apply At.tail))); exact rfl; infer_instance; exact rfl; (simp only [Act.put, zA, zB, zC])) | ((with_reducible apply wpQuiet_loadPart HF); exact rfl; exact rfl; (repeat (with_reducible (first | exact At.head _ | apply At.tail))); infer_instance; exact (Nat.le_of_ble_eq_true rfl); (simp only [List.drop_succ_cons, List.drop_zero, List.take_succ_cons, List.take_zero]; rfl); exact rfl; (simp only [Act.put, zA, zB, zC]))) | ((with_reducible apply wpQuiet_loadAt HF); exact rfl; exact rfl; exact (HCK.out); infer_instance; exact rfl; exact rfl; (simp only [Act.put, zA, zB, zC]))) | go_big_quiet_step (fail))
          refine wpQuiet_nil ?_
          intro x
          have HO := HF.own x
          clear HF
          generalize F x = w at *
          clear x F
          cases B
          · go_wp2_with fail
            go_roundw
            case rel => exact ⟨j + 1, by omega, by go_num, HST.out.2 (by first | rfl | trivial), HO⟩
            case measure => simp [intOf] <;> omega
          · go_wp2_with (first | (first | go_big_skip | ((with_reducible apply wpList_loadAll HO); exact rfl; exact rfl; (repeat (with_reducible (first | exact At.head _ | apply At.tail))); infer_instance; exact rfl; exact rfl; (simp only [Act.put, zA, zB, zC])) | ((with_reducible apply wpList_loadOne HO); exact rfl; exact rfl; (repeat (with_reducible (first | exact At.head _ | apply At.tail))); exact rfl; infer_instance; exact rfl; (simp only [Act.put, zA, zB, zC]))) | ((with_reducible apply wpList_storeAll HO); exact rfl; exact rfl; exact rfl; (repeat (with_reducible (first | exact At.head _ | apply At.tail))); infer_instance; exact rfl; exact rfl; exact rfl; exact rfl; clear HO; intro w HO; (simp only [Act.put])) | ((with_reducible apply wpList_loadAt HO); exact rfl; exact rfl; exact (HCR.out); infer_instance; exact rfl; exact rfl; (simp only [Act.put, zA, zB, zC])))
            refine bodyPost_ret (results_box HO rfl rfl (by (repeat (with_reducible (first | exact At.head _ | apply At.tail)))) inferInstance rfl rfl) rfl ?_
            rw [HQ2.out, HST.out.1 (by first | rfl | trivial)]
            exact ⟨rfl, HO.grown⟩
        · obtain rfl : j = rs.length := by omega
          rw [List.take_length] at hf
          have HF := Lib.hid hf
          clear hf
          go_wp2_with (first | (first | go_big_skip | ((with_reducible apply wpList_loadAll HO); exact rfl; exact rfl; (repeat (with_reducible (first | exact At.head _ | apply At.tail))); infer_instance; exact rfl; exact rfl; (simp only [Act.put, zA, zB, zC])) | ((with_reducible apply wpList_loadOne HO); exact rfl; exact rfl; (repeat (with_reducible (first | exact At.head _ | apply At.tail))); exact rfl; infer_instance; exact rfl; (simp only [Act.put, zA, zB, zC]))) | ((with_reducible apply wpList_storeAll HO); exact rfl; exact rfl; exact rfl; (repeat (with_reducible (first | exact At.head _ | apply At.tail))); infer_instance; exact rfl; exact rfl; exact rfl; exact rfl; clear HO; intro w HO; (simp only [Act.put])))
          refine bodyPost_ret (results_box HO rfl rfl (by (repeat (with_reducible (first | exact At.head _ | apply At.tail)))) inferInstance rfl rfl) rfl ?_
          rw [HQ2.out, HF.out]
          exact ⟨rfl, HO.grown⟩

set_option maxHeartbeats 8000000 in
set_option maxRecDepth 100000 in
theorem refNet_any {W : World} {v0 v1 v2 : Value} (A : InS) (o : Int) (h0 : IsRows W v0 A.r0) (h1 : IsRows W v1 A.r1) (h2 : IsRows W v2 A.r2) (hA : InOk A) :
    Calls Tryz.prog 90 #[.agg #[.int .i64 (A).p0, .int .i64 (A).q0, v0, .int .i64 (A).p1, .int .i64 (A).q1, v1, .int .i64 (A).p2, .int .i64 (A).q2, v2], .int .i64 o] W fun e w' => e = .returned (.int .i64 (netI A o)) ∧ Below W.heap.size W w' := by
  have R1 := fun w (hb : Below W.heap.size W w) => refRow_any A o 1 (h0.below hb h0.lt) (h1.below hb h1.lt) (h2.below hb h2.lt)
  have R4 := fun w (hb : Below W.heap.size W w) => refRow_any A o 4 (h0.below hb h0.lt) (h1.below hb h1.lt) (h2.below hb h2.lt)
  have HQ := Lib.hid (show netI A o = amtOf (rowOf A o 1) - amtOf (rowOf A o 4) from rfl)
  obtain ⟨b1, b2⟩ := rowOf_bound hA o 1
  obtain ⟨b3, b4⟩ := rowOf_bound hA o 4
  have hw : IntKind.i64.wrap (amtOf (rowOf A o 1) - amtOf (rowOf A o 4)) = amtOf (rowOf A o 1) - amtOf (rowOf A o 4) := by
    simp [IntKind.wrap, IntKind.bits, IntKind.signed]; omega
  have hw2 : IntKind.i64.wrap (-(amtOf (rowOf A o 4))) = -(amtOf (rowOf A o 4)) := by
    simp [IntKind.wrap, IntKind.bits, IntKind.signed]; omega
  generalize netI A o = z at *
  generalize rowOf A o 1 = x1 at *
  generalize rowOf A o 4 = x4 at *
  obtain ⟨s0, c0, rfl, -⟩ := h0.slice
  obtain ⟨s1, c1, rfl, -⟩ := h1.slice
  obtain ⟨s2, c2, rfl, -⟩ := h2.slice
  generalize A.r0.length = n0 at *
  generalize A.r1.length = n1 at *
  generalize A.r2.length = n2 at *
  have HO := Own.start W
  clear h0 h1 h2 b1 b2 b3 b4
  have hc : ∀ x : Option RowS, (∃ ro rd ra rq, x = some ⟨ro, rd, 1, ra, rq⟩ ∧ amtOf x = ra) ∨ ((∃ a b c d e, (c == 1) = false ∧ rowT x = .agg #[.int .i64 a, .int .i64 b, .int .i64 c, .int .i64 d, .int .i64 e]) ∧ amtOf x = 0) := fun x => by
    cases x with
    | none => exact .inr ⟨⟨0, 0, 0, 0, 0, rfl, rfl⟩, rfl⟩
    | some r =>
      obtain ⟨ro, rd, rc, ra, rq⟩ := r
      by_cases h : rc = 1
      · subst h; exact .inl ⟨ro, rd, ra, rq, rfl, rfl⟩
      · exact .inr ⟨⟨ro, rd, rc, ra, rq, by simpa using h, rfl⟩, by simp [amtOf, h]⟩
  rcases hc x1 with ⟨ro, rd, ra, rq, rfl, e1⟩ | ⟨⟨a1, a2, a3, a4, a5, n1', e1'⟩, e1⟩ <;> rcases hc x4 with ⟨ro4, rd4, ra4, rq4, rfl, e4⟩ | ⟨⟨d1, d2, d3, d4, d5, n4', e4'⟩, e4⟩
  all_goals
    rw [e1, e4] at HQ hw
    rw [e4] at hw2
    try rw [e1'] at R1
    try rw [e4'] at R4
    try simp only [rowT] at R1
    try simp only [rowT] at R4
    clear hc e1 e4
    go_enter Tryz.func90, Tryz.ntmps90
    go_wp2_with (first | ((with_reducible apply wpList_boxAgg _ HO rfl); exact rfl; exact rfl; exact rfl; clear HO; intro b2 w HO; (simp only [Act.put, zA, zB, zC])) | (first | go_big_skip | ((with_reducible apply wpList_loadAll HO); exact rfl; exact rfl; (repeat (with_reducible (first | exact At.head _ | apply At.tail))); infer_instance; exact rfl; exact rfl; (simp only [Act.put, zA, zB, zC])) | ((with_reducible apply wpList_loadOne HO); exact rfl; exact rfl; (repeat (with_reducible (first | exact At.head _ | apply At.tail))); exact rfl; infer_instance; exact rfl; (simp only [Act.put, zA, zB, zC]))) | ((with_reducible apply wpList_storeAll HO); exact rfl; exact rfl; exact rfl; (repeat (with_reducible (first | exact At.head _ | apply At.tail))); infer_instance; exact rfl; exact rfl; exact rfl; exact rfl; clear HO; intro w HO; (simp only [Act.put])) | (first | ((with_reducible apply wpList_boxAgg _ HO rfl); exact rfl; exact rfl; exact rfl; clear HO; intro b4 w HO; (simp only [Act.put, zA, zB, zC])) | ((with_reducible apply wpList_allocAgg _ HO rfl); exact rfl; infer_instance; exact rfl; clear HO; intro b4 w HO; (simp only [Act.put, zA, zB, zC]))) | (go_at_call 137; first | ((with_reducible refine (R1 _ HO.grown).mono ?_); (rintro e w ⟨rfl, hb⟩; replace HO := HO.call hb; clear hb)) | ((with_reducible refine (R4 _ HO.grown).mono ?_); (rintro e w ⟨rfl, hb⟩; replace HO := HO.call hb; clear hb))))
    go_ret
    exact ⟨by rw [HQ.out]; first | rfl | simp, HO.grown⟩
end Go.Proofs.YtibabfedpdoofaaGreatDoor
namespace Go.Proofs.YtibabfedpdoofaaGreatDoor
open Go.RowKit Go.Own Go.Maps

end Go.Proofs.YtibabfedpdoofaaGreatDoor

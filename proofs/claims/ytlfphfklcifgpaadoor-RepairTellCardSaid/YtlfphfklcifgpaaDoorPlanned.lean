/-
  The chapter's saga, by walking the text: true; conditions: the table of parties as laid.
-/
import Derived.Test.YtlfphfklcifgpaaDoorSettled
import Derived.Test.YtlfphfklcifgpaaDoorKeysEq
import Derived.Test.YtlfphfklcifgpaaDoorSagaE
import Derived.Test.YtlfphfklcifgpaaDoorMem4
import Derived.Deep.RegionWith
import Derived.Deep.DeepCutAuto
namespace Go.Proofs.YtlfphfklcifgpaaDoor
open Go.RowKit Go.Own

theorem run_key_eq (a b a' b' : Int) (w : World) : (binOp .eql 43 (.agg #[.int .i64 a, .int .i64 b]) (.agg #[.int .i64 a', .int .i64 b'])).run Tryd.prog w = .ok (.bool (decide (a = a') && decide (b = b'))) w := by
  go_simp
  (repeat' split) <;> simp_all
def oP : OrdS := ⟨1, [97], [98], 2, 500⟩
def sP : D6 := ⟨2, 1, 0, 0, 0, 0, false⟩
theorem Box.drew {w : World} {B : Nat} {A : Array Value} (h : Box w B A) : Box w.drew B A := h.below (Below.refl w.heap.size w).drew h.lt
theorem Box.new' {w : World} {B : Nat} (h : w.heap.size = B) (A : Array Value) (T : TypeId) : Box (w.alloc (.cells A T)) B A := by
  subst h; exact Box.new w A T
theorem isL_box {w : World} {A k : Nat} {l : List Value} (h : Box w A l.toArray) : IsL w k (.slice (some ⟨A, 0, none⟩) 1 1) [l] := by
  refine .some ⟨A, 0, none⟩ 1 [l] (by simp) (by decide) (by simp) ⟨h.lt, fun i hi j v hv => ?_⟩
  obtain rfl : i = 0 := by simpa using hi
  have hadd : ∀ n, (⟨A, 0, none⟩ : Addr).add n = ⟨A, n, none⟩ := fun n => by unfold Addr.add; split <;> simp_all
  rw [Nat.zero_mul, hadd, hadd]
  exact h.c j v (by simpa using hv)
theorem plan0 : planOf [(oP, sP)] 0 = [(1, 1)] := by decide +kernel
theorem plan1 : planOf [(oP, sP)] 1 = [] := by decide +kernel
/-- The box's slice, whatever the party. -/
theorem planP_any {w : World} {A : Nat} (party : Int) (h : Box w A (sagaL (oP, sP)).toArray) (hL : Laid w) :
    Calls Tryd.prog 26 #[.slice (some ⟨A, 0, none⟩) 1 1, .int .i64 party] w (Keys w (planOf [(oP, sP)] party)) :=
  plan_any party (L := [(oP, sP)]) (isL_box h) hL (by decide)

set_option maxHeartbeats 8000000 in
set_option maxRecDepth 100000 in
theorem planned_any (w : World) (hL : Laid w) : Calls Tryd.prog 24 #[] w fun e w' => e = .returned (.bool true) ∧ Below w.heap.size w w' := by
  have G := fun w => begin_any oP w
  have R := fun w => reply_any oP beginD 0 1 w
  rw [show replyOf beginD 0 1 = some sP by decide +kernel] at R
  simp only [sagaV, ordV, replyV, beginD, oP, sP] at G R
  have HL := Lib.hid hL
  have hpos : 0 < w.heap.size := hL.1
  clear hL
  go_enter Tryd.func24, Tryd.ntmps24
  go_upto_region 2 with (first
    | (go_at_call 51; go_must ((with_reducible refine (G _).mono ?_); rintro e w1 ⟨rfl, hb⟩; have HB1 := Lib.hid hb; clear hb))
    | (go_at_call 50; go_must ((with_reducible refine (R _).mono ?_); rintro e w2 ⟨rfl, hb⟩; have HB2 := Lib.hid (HB1.out.trans (hb.mono HB1.out.size)); clear hb)))
  have hw2 : w.heap.size ≤ w2.heap.size := HB2.out.size
  go_cut [3, 4] (fun a b wx => IsL wx 2 a [keyL (1, 1)] ∧ IsL wx 2 b [] ∧ Below w2.heap.size w2 wx ∧ Box wx w2.heap.size (sagaL (oP, sP)).toArray)
  case first =>
    have HP := Lib.hid (fun (w' : World) (party : Int) (B : Nat) (h : Box w' B (sagaL (oP, sP)).toArray) (hb : Below w2.heap.size w2 w') => planP_any party h (HL.out.below (HB2.out.trans (hb.mono hw2)) hpos))
    have tokS : True := trivial
    go_region_with (first
      | (go_at_call 26; have _t := tokS; go_must ((with_reducible refine (HP.out _ _ _ ?_ ?_).mono ?_); rotate_left 1; exact (by with_reducible (repeat (first | assumption | exact Below.refl _ _ | refine Below.drew ?_ | refine below_drewN ?_ _ | refine Below.alloc ?_ (by first | (simp; done) | omega | (simp; omega)) _ | refine Below.setCell ?_ (by first | (simp; done) | omega | (simp; omega)) _ | refine Below.trans ?_ (Below.mono (by assumption) (by first | (simp; done) | omega | (simp; omega)))))); rotate_left 1; (repeat (first | assumption | refine Box.drew ?_ | (refine Box.new' ?_ _ _; focus (simp; done)) | refine Box.alloc ?_ _)); rintro e x1 ⟨va, rfl, hIa, hb, -⟩; clear tokS _t; simp only [plan0, plan1, List.map_cons, List.map_nil] at hIa; have HIA := Lib.hid hIa; clear hIa; have HK := Lib.hid (fun (C : Nat) (A : Array Value) (h : Box _ C A) => Box.below h hb h.lt); have HW := Lib.hid (show Below w2.heap.size w2 x1 from Below.trans (show Below w2.heap.size w2 _ from (by with_reducible (repeat (first | assumption | exact Below.refl _ _ | refine Below.drew ?_ | refine below_drewN ?_ _ | refine Below.alloc ?_ (by first | (simp; done) | omega | (simp; omega)) _ | refine Below.setCell ?_ (by first | (simp; done) | omega | (simp; omega)) _ | refine Below.trans ?_ (Below.mono (by assumption) (by first | (simp; done) | omega | (simp; omega))))))) (hb.mono (by simp; omega))); have hz1 := HW.out.size; have bb : Box x1 w2.heap.size (sagaL (oP, sP)).toArray := HK.out _ _ (by (repeat (first | assumption | refine Box.drew ?_ | (refine Box.new' ?_ _ _; focus (simp; done)) | refine Box.alloc ?_ _))); have eB : ∀ i, i < 12 → x1.cell? ⟨w2.heap.size, i, none⟩ = (#[.int .i64 1, .string ⟨#[97]⟩, .string ⟨#[98]⟩, .int .i64 2, .int .i64 500, .int .i64 2, .int .i64 1, .int .i64 0, .int .i64 0, .int .i64 0, .int .i64 0, .bool false] : Array Value)[i]? := bb.eq; have lB := bb.lt; have HBX := Lib.hid bb; clear bb hb))
      | (go_at_call 26; go_must ((with_reducible refine (HP.out _ _ _ ?_ ?_).mono ?_); rotate_left 1; (have hw := HW.out; exact (by with_reducible (repeat (first | assumption | exact Below.refl _ _ | refine Below.drew ?_ | refine below_drewN ?_ _ | refine Below.alloc ?_ (by first | (simp; done) | omega | (simp; omega)) _ | refine Below.setCell ?_ (by first | (simp; done) | omega | (simp; omega)) _ | refine Below.trans ?_ (Below.mono (by assumption) (by first | (simp; done) | omega | (simp; omega))))))); rotate_left 1; (repeat (first | assumption | exact HBX.out | refine Box.drew ?_ | (refine Box.new' ?_ _ _; focus (simp; done)) | refine Box.alloc ?_ _ | refine HK.out _ _ ?_)); rintro e x2 ⟨vb, rfl, hIb, hb, -⟩; simp only [plan0, plan1, List.map_cons, List.map_nil] at hIb; have HIB := Lib.hid hIb; clear hIb; have HX := Lib.hid (show Below x1.heap.size x1 x2 from Below.trans (show Below x1.heap.size x1 _ from (by with_reducible (repeat (first | assumption | exact Below.refl _ _ | refine Below.drew ?_ | refine below_drewN ?_ _ | refine Below.alloc ?_ (by first | (simp; done) | omega | (simp; omega)) _ | refine Below.setCell ?_ (by first | (simp; done) | omega | (simp; omega)) _ | refine Below.trans ?_ (Below.mono (by assumption) (by first | (simp; done) | omega | (simp; omega))))))) (hb.mono (by simp))); have HIC := Lib.hid (HIA.out.below HX.out HIA.out.lt); have HBX2 := Lib.hid (HBX.out.below HX.out HBX.out.lt); have HW2 := Lib.hid (HW.out.trans (HX.out.mono hz1)); clear hb)))
    all_goals (go_wp2_with fail; go_meet; first | exact ⟨HIC.out, HIB.out, HW2.out, HBX2.out⟩ | exact ⟨HIB.out, HIC.out, HW2.out, HBX2.out⟩)
  case rest =>
    obtain ⟨hIa, hIb, hW, hB⟩ := hcut
    obtain ⟨a, cap, rfl, hlen, hcap, hR⟩ := hIa.at (by decide)
    obtain ⟨p, c, rfl, _⟩ := hIb.slice
    have c0 := hR.c0 0 (by decide) _ rfl
    have c1 := hR.cj 0 (by decide) 0 _ rfl
    have hb0 : (a.add (0 * 2)).block < wc.heap.size := hR.lt' _
    simp only [List.length_cons, List.length_nil, Nat.zero_add, Nat.zero_mul] at c0 c1 hb0 ⊢
    have ha0 : a.add 0 = a := by obtain ⟨b, o, n⟩ := a; cases n <;> simp [Addr.add]
    rw [ha0] at c0 c1 hb0
    clear ha0
    have hk := fun w => run_key_eq 1 1 1 1 w
    rw [show (decide ((1 : Int) = 1) && decide ((1 : Int) = 1)) = true by decide] at hk
    have eB : ∀ i, i < 12 → wc.cell? ⟨w2.heap.size, i, none⟩ = (#[.int .i64 1, .string ⟨#[97]⟩, .string ⟨#[98]⟩, .int .i64 2, .int .i64 500, .int .i64 2, .int .i64 1, .int .i64 0, .int .i64 0, .int .i64 0, .int .i64 0, .bool false] : Array Value)[i]? := hB.eq
    have lB := hB.lt
    have HBX := Lib.hid hB
    have HW := Lib.hid hW
    have hz := hW.size
    have HS := Lib.hid (fun (w' : World) (B : Nat) (h : Box w' B (sagaL (oP, sP)).toArray) => settled_any (L := [(oP, sP)]) (K := []) (isL_box h) (IsL.none none 0 (fun _ => rfl)) (by decide) (by decide) (by simp) (by decide))
    clear hIa hIb hR hB hW hlen hcap
    go_wp2_with (first
      | (go_at_call 28; go_must ((with_reducible refine (HS.out _ _ ?_).mono ?_); (repeat (first | assumption | exact HBX.out | refine Box.drew ?_ | (refine Box.new' ?_ _ _; focus (simp; done)) | refine Box.alloc ?_ _)); rintro e x3 ⟨vs, rfl, hI, hb, -⟩; rw [show settledOf [(oP, sP)] [] = [] by decide +kernel] at hI; simp only [List.map_nil] at hI; obtain ⟨p3, c3, rfl, _⟩ := hI.slice; have HX := Lib.hid (show Below wc.heap.size wc x3 from Below.trans (show Below wc.heap.size wc _ from (by with_reducible (repeat (first | assumption | exact Below.refl _ _ | refine Below.drew ?_ | refine below_drewN ?_ _ | refine Below.alloc ?_ (by first | (simp; done) | omega | (simp; omega)) _ | refine Below.setCell ?_ (by first | (simp; done) | omega | (simp; omega)) _ | refine Below.trans ?_ (Below.mono (by assumption) (by first | (simp; done) | omega | (simp; omega))))))) (hb.mono (by simp))); clear hI hb)))
    go_ret
    exact ⟨rfl, HB2.out.trans ((HW.out.trans (HX.out.mono hz)).mono hw2)⟩
end Go.Proofs.YtlfphfklcifgpaaDoor

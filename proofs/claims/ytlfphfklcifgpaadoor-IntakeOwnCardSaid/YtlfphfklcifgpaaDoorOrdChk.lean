/-
  What is wrong with an order, by walking both texts; conditions: texts no longer than memory bears.
-/
import Derived.Test.YtlfphfklcifgpaaDoorNames
namespace Go.Proofs.YtlfphfklcifgpaaDoor
open Go.RowKit Go.Own

/-- What is wrong with an order. -/
def ordCheck (id : Int) (ref sku : List UInt8) (qty amt : Int) : Int :=
  if id < 1 ∨ 60 < id ∨ qty < 1 ∨ 999 < qty ∨ amt < 1 ∨ 1099511627776 < amt ∨ ref = [] ∨ sku = [] then 2
  else if 16 < ref.length ∨ 8 < sku.length then 3
  else if isName ref = true ∧ isName sku = true then 0 else 2

set_option maxHeartbeats 2000000 in
theorem ordCheck_any (id : Int) (ref sku : List UInt8) (qty amt : Int) (w : World) (h1 : ref.length ≤ maxLen) (h2 : sku.length ≤ maxLen) :
    Calls Tryd.prog 56 #[.agg #[.int .i64 id, .string ⟨ref.toArray⟩, .string ⟨sku.toArray⟩, .int .i64 qty, .int .i64 amt]] w fun e w' => e = .returned (.int .i64 (ordCheck id ref sku qty amt)) ∧ Below w.heap.size w w' := by
  have N1 := fun w => name_any ref w h1
  have N2 := fun w => name_any sku w h2
  unfold maxLen at h1 h2
  go_enter Tryd.func56, Tryd.ntmps56
  go_wp2_with (go_at_call 81; go_must ((first | (with_reducible refine (N1 _).mono ?_) | (with_reducible refine (N2 _).mono ?_)); rintro e w1 ⟨rfl, hb⟩; obtain ⟨hc, hf⟩ := bcell hb; have hz := hb.size; (try simp at hz); (try have hzT := Nat.lt_of_succ_le hz)))
  all_goals (go_ret; refine ⟨ret_int ?_, (by with_reducible (repeat (first | assumption | exact Below.refl _ _ | refine Below.drew ?_ | refine below_drewN ?_ _ | refine Below.alloc ?_ (by first | (simp; done) | omega | (simp; omega)) _ | refine Below.setCell ?_ (by first | (simp; done) | omega | (simp; omega)) _ | refine Below.trans ?_ (Below.mono (by assumption) (by first | (simp; done) | omega | (simp; omega))))))⟩)
  all_goals clear N1 N2
  all_goals try clear hb hc hf
  all_goals try clear hb hc hf
  all_goals first | (simp_all [ordCheck]; done) | (simp_all [ordCheck]; omega) | grind [ordCheck]

set_option maxHeartbeats 2000000 in
theorem refOrdCheck_any (id : Int) (ref sku : List UInt8) (qty amt : Int) (w : World) (h1 : ref.length ≤ maxLen) (h2 : sku.length ≤ maxLen) :
    Calls Tryd.prog 72 #[.agg #[.int .i64 id, .string ⟨ref.toArray⟩, .string ⟨sku.toArray⟩, .int .i64 qty, .int .i64 amt]] w fun e w' => e = .returned (.int .i64 (ordCheck id ref sku qty amt)) ∧ Below w.heap.size w w' := by
  have N1 := fun w => refName_any ref w h1
  have N2 := fun w => refName_any sku w h2
  unfold maxLen at h1 h2
  go_enter Tryd.func72, Tryd.ntmps72
  go_wp2_with (go_at_call 91; go_must ((first | (with_reducible refine (N1 _).mono ?_) | (with_reducible refine (N2 _).mono ?_)); rintro e w1 ⟨rfl, hb⟩; obtain ⟨hc, hf⟩ := bcell hb; have hz := hb.size; (try simp at hz); (try have hzT := Nat.lt_of_succ_le hz)))
  all_goals (go_ret; refine ⟨ret_int ?_, (by with_reducible (repeat (first | assumption | exact Below.refl _ _ | refine Below.drew ?_ | refine below_drewN ?_ _ | refine Below.alloc ?_ (by first | (simp; done) | omega | (simp; omega)) _ | refine Below.setCell ?_ (by first | (simp; done) | omega | (simp; omega)) _ | refine Below.trans ?_ (Below.mono (by assumption) (by first | (simp; done) | omega | (simp; omega))))))⟩)
  all_goals clear N1 N2
  all_goals try clear hb hc hf
  all_goals try clear hb hc hf
  all_goals first | (simp_all [ordCheck, List.length_eq_zero_iff]; done) | (simp_all [ordCheck, List.length_eq_zero_iff]; omega) | grind [ordCheck, List.length_eq_zero_iff]

theorem ordCheck_ok {id : Int} {ref sku : List UInt8} {qty amt : Int} (h : ordCheck id ref sku qty amt = 0) :
    1 ≤ id ∧ id ≤ 60 ∧ 1 ≤ qty ∧ qty ≤ 999 ∧ 1 ≤ amt ∧ amt ≤ 1099511627776 ∧ ref ≠ [] ∧ sku ≠ [] ∧ ref.length ≤ 16 ∧ sku.length ≤ 8 ∧ isName ref = true ∧ isName sku = true := by
  unfold ordCheck at h
  split at h
  · cases h
  · split at h
    · cases h
    · split at h
      · rename_i a b c
        simp only [not_or] at a b
        obtain ⟨c1, c2⟩ := c
        exact ⟨by omega, by omega, by omega, by omega, by omega, by omega, a.2.2.2.2.2.2.1, a.2.2.2.2.2.2.2, by omega, by omega, c1, c2⟩
      · cases h
end Go.Proofs.YtlfphfklcifgpaaDoor

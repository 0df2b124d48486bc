/-
  What the reader of rows does, by walking its text; conditions: its two cells lie in memory of the caller's own.
-/
import Derived.Test.YtlfphfklcifgpaaDoorReader
import Derived.Test.YtlfphfklcifgpaaDoorOwn2
import Derived.Test.YtlfphfklcifgpaaDoorTypes
namespace Go.Proofs.YtlfphfklcifgpaaDoor
open Go.RowKit Go.Own

/-- A reader's two cells. -/
def rdCs (st : Rdr) : List Value := [.string ⟨st.1.toArray⟩, .bool st.2]
def rdBox (b : Nat) (st : Rdr) : Ent := box b (.cells (rdCs st).toArray 135)
def rdMost : Nat := 1099511627776

set_option maxHeartbeats 2000000 in
theorem next_any {W w : World} {L : List Ent} {b : Nat} (l : List UInt8) (ok : Bool) (hl : l.length ≤ maxLen) (HO : Own W w (rdBox b (l, ok) :: L)) :
    Calls Tryd.prog 88 #[.pointer (some ⟨b, 0, none⟩)] w fun e w' => e = .returned (.int .i64 (rdNum rdMost (l, ok)).1) ∧ Own W w' (rdBox b (rdNum rdMost (l, ok)).2 :: L) := by
  have hR := fun w => read_any l w hl
  unfold rdBox rdCs at HO
  cases hr : readB l with
  | none =>
    have HQ := Lib.hid (show rdNum rdMost (l, ok) = (0, ([], false)) by simp [rdNum, hr])
    rw [hr] at hR
    clear hr
    simp only [retRead] at hR
    cases ok
    all_goals
      go_enter Tryd.func88, Tryd.ntmps88
      go_wp2_with (first | (first | go_big_skip | ((with_reducible apply wpList_loadAll HO); exact rfl; exact rfl; (repeat (with_reducible (first | exact At.head _ | apply At.tail))); infer_instance; exact rfl; exact rfl; (simp only [Act.put, List.setIfInBounds_toArray, List.set_cons_succ, List.set_cons_zero])) | ((with_reducible apply wpList_loadOne HO); exact rfl; exact rfl; (repeat (with_reducible (first | exact At.head _ | apply At.tail))); exact rfl; infer_instance; exact rfl; (simp only [Act.put, List.setIfInBounds_toArray, List.set_cons_succ, List.set_cons_zero]))) | ((with_reducible apply wpList_storeOne HO); exact rfl; exact rfl; (first | (simp [Act.eval]; rfl) | exact rfl); exact rfl; (repeat (with_reducible (first | exact At.head _ | apply At.tail))); infer_instance; exact (by simp); (simp only [List.set_cons_succ, List.set_cons_zero]; rfl); exact rfl; clear HO; intro w HO; (simp only [Act.put])) | (go_at_call 65; go_must ((with_reducible refine (hR _).mono ?_); rintro e w ⟨rfl, hb⟩; replace HO := HO.call hb; clear hb)))
      go_ret
      rw [HQ.out]
      exact ⟨rfl, HO⟩
  | some x =>
    obtain ⟨n, r⟩ := x
    rw [hr] at hR
    simp only [retRead] at hR
    by_cases hok : ok = true ∧ n ≤ rdMost
    · obtain ⟨rfl, hn⟩ := hok
      have HQ := Lib.hid (show rdNum rdMost (l, true) = (n, (r, true)) by simp [rdNum, hr, hn])
      clear hr
      unfold rdMost at hn
      have hn1 : (n : Int) ≤ 1099511627776 := by omega
      go_enter Tryd.func88, Tryd.ntmps88
      go_wp2_with (first | (first | go_big_skip | ((with_reducible apply wpList_loadAll HO); exact rfl; exact rfl; (repeat (with_reducible (first | exact At.head _ | apply At.tail))); infer_instance; exact rfl; exact rfl; (simp only [Act.put, List.setIfInBounds_toArray, List.set_cons_succ, List.set_cons_zero])) | ((with_reducible apply wpList_loadOne HO); exact rfl; exact rfl; (repeat (with_reducible (first | exact At.head _ | apply At.tail))); exact rfl; infer_instance; exact rfl; (simp only [Act.put, List.setIfInBounds_toArray, List.set_cons_succ, List.set_cons_zero]))) | ((with_reducible apply wpList_storeOne HO); exact rfl; exact rfl; (first | (simp [Act.eval]; rfl) | exact rfl); exact rfl; (repeat (with_reducible (first | exact At.head _ | apply At.tail))); infer_instance; exact (by simp); (simp only [List.set_cons_succ, List.set_cons_zero]; rfl); exact rfl; clear HO; intro w HO; (simp only [Act.put])) | (go_at_call 65; go_must ((with_reducible refine (hR _).mono ?_); rintro e w ⟨rfl, hb⟩; replace HO := HO.call hb; clear hb)))
      go_ret
      rw [HQ.out]
      exact ⟨rfl, HO⟩
    · have HQ := Lib.hid (show rdNum rdMost (l, ok) = (0, (r, false)) by simp only [rdNum, hr]; rw [if_neg hok])
      clear hr
      cases ok
      · go_enter Tryd.func88, Tryd.ntmps88
        go_wp2_with (first | (first | go_big_skip | ((with_reducible apply wpList_loadAll HO); exact rfl; exact rfl; (repeat (with_reducible (first | exact At.head _ | apply At.tail))); infer_instance; exact rfl; exact rfl; (simp only [Act.put, List.setIfInBounds_toArray, List.set_cons_succ, List.set_cons_zero])) | ((with_reducible apply wpList_loadOne HO); exact rfl; exact rfl; (repeat (with_reducible (first | exact At.head _ | apply At.tail))); exact rfl; infer_instance; exact rfl; (simp only [Act.put, List.setIfInBounds_toArray, List.set_cons_succ, List.set_cons_zero]))) | ((with_reducible apply wpList_storeOne HO); exact rfl; exact rfl; (first | (simp [Act.eval]; rfl) | exact rfl); exact rfl; (repeat (with_reducible (first | exact At.head _ | apply At.tail))); infer_instance; exact (by simp); (simp only [List.set_cons_succ, List.set_cons_zero]; rfl); exact rfl; clear HO; intro w HO; (simp only [Act.put])) | (go_at_call 65; go_must ((with_reducible refine (hR _).mono ?_); rintro e w ⟨rfl, hb⟩; replace HO := HO.call hb; clear hb)))
        go_ret
        rw [HQ.out]
        exact ⟨rfl, HO⟩
      · have hn0 : 1099511627776 < n := by simp [rdMost] at hok; omega
        have hn1 : (1099511627776 : Int) < (n : Int) := by omega
        have hd1 : decide (n ≤ 1099511627776) = false := by simp; omega
        have hd2 : decide ((n : Int) ≤ 1099511627776) = false := by simp; omega
        clear hn0 hok
        go_enter Tryd.func88, Tryd.ntmps88
        go_wp2_with (first | (first | go_big_skip | ((with_reducible apply wpList_loadAll HO); exact rfl; exact rfl; (repeat (with_reducible (first | exact At.head _ | apply At.tail))); infer_instance; exact rfl; exact rfl; (simp only [Act.put, List.setIfInBounds_toArray, List.set_cons_succ, List.set_cons_zero])) | ((with_reducible apply wpList_loadOne HO); exact rfl; exact rfl; (repeat (with_reducible (first | exact At.head _ | apply At.tail))); exact rfl; infer_instance; exact rfl; (simp only [Act.put, List.setIfInBounds_toArray, List.set_cons_succ, List.set_cons_zero]))) | ((with_reducible apply wpList_storeOne HO); exact rfl; exact rfl; (first | (simp [Act.eval]; rfl) | exact rfl); exact rfl; (repeat (with_reducible (first | exact At.head _ | apply At.tail))); infer_instance; exact (by simp); (simp only [List.set_cons_succ, List.set_cons_zero]; rfl); exact rfl; clear HO; intro w HO; (simp only [Act.put])) | (go_at_call 65; go_must ((with_reducible refine (hR _).mono ?_); rintro e w ⟨rfl, hb⟩; replace HO := HO.call hb; clear hb)))
        go_ret
        rw [HQ.out]
        exact ⟨rfl, HO⟩
end Go.Proofs.YtlfphfklcifgpaaDoor

/-
  The chapter's example of an intake, by walking the law's text; conditions: the table of parties as laid.
-/
import Derived.Test.YtlfphfklcifgpaaDoorIntAlike
import Derived.Test.YtlfphfklcifgpaaDoorIntAcc2
import Derived.Deep.CutBlock
import Derived.Deep.DeepCutAuto
namespace Go.Own
theorem Own.front3 {W w : World} {L : List Ent} {x y z : Ent} (h : Own W w (x :: y :: z :: L)) : Own W w (z :: x :: y :: L) :=
  h.perm (((List.Perm.swap z y L).cons x).trans (List.Perm.swap z x (y :: L)))
end Go.Own
namespace Go.Proofs.YtlfphfklcifgpaaDoor
open Go.RowKit Go.Own Go.Maps

def rPaid : RowS := ⟨1, 1, 1, 500, 0⟩
set_option maxHeartbeats 8000000 in
set_option maxRecDepth 100000 in
theorem paid1_any (q : Int) (W : World) : Calls Tryd.prog 43 #[.int .i64 q, .bool true] W fun e w' => ∃ b, e = .returned (.agg #[.int .i64 0, .int .i64 q, .slice (some ⟨b, 0, none⟩) 1 1]) ∧ Own W w' [row 45 5 (.slice (some ⟨b, 0, none⟩) 1 1) ([rPaid].map rowC)] := by
  have HO := Own.start W
  go_enter Tryd.func43, Tryd.ntmps43
  go_wp2_with (first | (first | go_big_skip | ((with_reducible apply wpList_loadAll HO); exact rfl; exact rfl; (repeat (with_reducible (first | exact At.head _ | apply At.tail))); infer_instance; exact rfl; exact rfl; (simp only [Act.put, List.setIfInBounds_toArray, List.set_cons_succ, List.set_cons_zero])) | ((with_reducible apply wpList_loadOne HO); exact rfl; exact rfl; (repeat (with_reducible (first | exact At.head _ | apply At.tail))); exact rfl; infer_instance; exact rfl; (simp only [Act.put, List.setIfInBounds_toArray, List.set_cons_succ, List.set_cons_zero]))) | ((with_reducible apply wpList_storeAll HO); exact rfl; exact rfl; exact rfl; (repeat (with_reducible (first | exact At.head _ | apply At.tail))); infer_instance; exact rfl; exact rfl; exact rfl; exact rfl; clear HO; intro w HO; (simp only [Act.put])) | (first | ((with_reducible apply wpList_lit1 HO); exact rfl; infer_instance; infer_instance; exact rfl; exact rfl; exact (by decide); exact rfl; clear HO; intro b9 w HO; (simp only [Act.put, List.setIfInBounds_toArray, List.set_cons_succ, List.set_cons_zero])) | ((with_reducible apply wpList_lit1c HO); exact rfl; infer_instance; infer_instance; (first | (simp [Act.eval]; rfl) | exact rfl); exact rfl; exact rfl; clear HO; intro b9 w HO; (simp only [Act.put, List.setIfInBounds_toArray, List.set_cons_succ, List.set_cons_zero]))) | ((with_reducible apply wpList_storeOne HO); exact rfl; exact rfl; (first | (simp [Act.eval]; rfl) | exact rfl); exact rfl; (repeat (with_reducible (first | exact At.head _ | apply At.tail))); infer_instance; exact (by simp); (simp only [List.set_cons_succ, List.set_cons_zero]; rfl); exact rfl; clear HO; intro w HO; (simp only [Act.put])) | ((with_reducible apply wpList_loadPart HO); exact rfl; exact rfl; (repeat (with_reducible (first | exact At.head _ | apply At.tail))); infer_instance; exact (Nat.le_of_ble_eq_true rfl); (simp only [List.drop_succ_cons, List.drop_zero, List.take_succ_cons, List.take_zero]; rfl); exact rfl; (simp only [Act.put, List.setIfInBounds_toArray, List.set_cons_succ, List.set_cons_zero])) | ((have _h : Own W _ (box _ _ :: _) := HO); clear _h; ((with_reducible apply wpList_allocAgg _ HO rfl); exact rfl; infer_instance; exact rfl; clear HO; intro b5 w HO; (simp only [Act.put, List.setIfInBounds_toArray, List.set_cons_succ, List.set_cons_zero]))) | ((with_reducible apply wpList_allocAgg _ HO rfl); exact rfl; infer_instance; exact rfl; clear HO; intro b4 w HO; (simp only [Act.put, List.setIfInBounds_toArray, List.set_cons_succ, List.set_cons_zero])))
  refine bodyPost_ret (results_one HO rfl rfl (by (repeat (with_reducible (first | exact At.head _ | apply At.tail)))) inferInstance rfl) rfl ?_
  exact ⟨b9, rfl, (HO.litRow (A := [rPaid].map rowC) (k := 5) (rowC_len _) rfl rfl (by unfold maxLen; simp)).sub (by exact .cons_cons _ (.cons _ (.cons _ (List.Sublist.refl _))))⟩
set_option maxHeartbeats 8000000 in
set_option maxRecDepth 100000 in
theorem paid0_any (q : Int) (W : World) : Calls Tryd.prog 43 #[.int .i64 q, .bool false] W fun e w' => e = .returned (.agg #[.int .i64 0, .int .i64 q, .slice none 0 0]) ∧ Below W.heap.size W w' := by
  have HO := Own.start W
  go_enter Tryd.func43, Tryd.ntmps43
  go_wp2_with (first | (first | go_big_skip | ((with_reducible apply wpList_loadAll HO); exact rfl; exact rfl; (repeat (with_reducible (first | exact At.head _ | apply At.tail))); infer_instance; exact rfl; exact rfl; (simp only [Act.put, List.setIfInBounds_toArray, List.set_cons_succ, List.set_cons_zero])) | ((with_reducible apply wpList_loadOne HO); exact rfl; exact rfl; (repeat (with_reducible (first | exact At.head _ | apply At.tail))); exact rfl; infer_instance; exact rfl; (simp only [Act.put, List.setIfInBounds_toArray, List.set_cons_succ, List.set_cons_zero]))) | ((with_reducible apply wpList_storeAll HO); exact rfl; exact rfl; exact rfl; (repeat (with_reducible (first | exact At.head _ | apply At.tail))); infer_instance; exact rfl; exact rfl; exact rfl; exact rfl; clear HO; intro w HO; (simp only [Act.put])) | (first | ((with_reducible apply wpList_lit1 HO); exact rfl; infer_instance; infer_instance; exact rfl; exact rfl; exact (by decide); exact rfl; clear HO; intro b9 w HO; (simp only [Act.put, List.setIfInBounds_toArray, List.set_cons_succ, List.set_cons_zero])) | ((with_reducible apply wpList_lit1c HO); exact rfl; infer_instance; infer_instance; (first | (simp [Act.eval]; rfl) | exact rfl); exact rfl; exact rfl; clear HO; intro b9 w HO; (simp only [Act.put, List.setIfInBounds_toArray, List.set_cons_succ, List.set_cons_zero]))) | ((with_reducible apply wpList_storeOne HO); exact rfl; exact rfl; (first | (simp [Act.eval]; rfl) | exact rfl); exact rfl; (repeat (with_reducible (first | exact At.head _ | apply At.tail))); infer_instance; exact (by simp); (simp only [List.set_cons_succ, List.set_cons_zero]; rfl); exact rfl; clear HO; intro w HO; (simp only [Act.put])) | ((with_reducible apply wpList_loadPart HO); exact rfl; exact rfl; (repeat (with_reducible (first | exact At.head _ | apply At.tail))); infer_instance; exact (Nat.le_of_ble_eq_true rfl); (simp only [List.drop_succ_cons, List.drop_zero, List.take_succ_cons, List.take_zero]; rfl); exact rfl; (simp only [Act.put, List.setIfInBounds_toArray, List.set_cons_succ, List.set_cons_zero])) | ((have _h : Own W _ (box _ _ :: _) := HO); clear _h; ((with_reducible apply wpList_allocAgg _ HO rfl); exact rfl; infer_instance; exact rfl; clear HO; intro b5 w HO; (simp only [Act.put, List.setIfInBounds_toArray, List.set_cons_succ, List.set_cons_zero]))) | ((with_reducible apply wpList_allocAgg _ HO rfl); exact rfl; infer_instance; exact rfl; clear HO; intro b4 w HO; (simp only [Act.put, List.setIfInBounds_toArray, List.set_cons_succ, List.set_cons_zero])))
  refine bodyPost_ret (results_one HO rfl rfl (by (repeat (with_reducible (first | exact At.head _ | apply At.tail)))) inferInstance rfl) rfl ?_
  exact ⟨rfl, HO.grown⟩

def inA1 : InS := ⟨0, 3, [rPaid], 0, 0, [], 0, 0, []⟩
def inA2 : InS := ⟨0, 4, [], 0, 0, [], 0, 0, []⟩
theorem inA1_ok : InOk inA1 := ⟨by decide +kernel, by decide +kernel, by decide +kernel⟩
theorem inA2_ok : InOk inA2 := ⟨by decide +kernel, by decide +kernel, by decide +kernel⟩
theorem nilRows (w : World) : IsRows w (.slice none 0 0) [] := .none _ _ (fun _ => rfl)
theorem acc1_any {w : World} {v : Value} (h : IsRows w v [rPaid]) (hL : Laid w) : Calls Tryd.prog 14 #[.agg #[.int .i64 0, .int .i64 0, .slice none 0 0, .int .i64 0, .int .i64 0, .slice none 0 0, .int .i64 0, .int .i64 0, .slice none 0 0, .map none], .agg #[.int .i64 0, .int .i64 3, v]] w fun e w' =>
    ∃ b n p c, e = .returned (.tuple #[.agg #[.int .i64 0, .int .i64 3, .slice p 1 c, .int .i64 0, .int .i64 0, .slice none 0 0, .int .i64 0, .int .i64 0, .slice none 0 0, .map (some b)], .int .i64 0]) ∧ Own w w' [mapE Tryd.prog 43 b n (allF inA1), row 45 5 (.slice p 1 c) ([rPaid].map rowC)] := by
  have ha : accE zeroI 0 3 [rPaid] = 0 := by decide +kernel
  refine (accept_any zeroI 0 3 [rPaid] (nilRows w) (nilRows w) (nilRows w) h zeroI_ok (.inl rfl) hL).mono ?_
  intro e w' he
  unfold AccPost at he
  rw [if_pos ha] at he
  obtain ⟨b, n, u, hO, ⟨p', c', rfl⟩, rfl⟩ := he
  exact ⟨b, n, p', c', rfl, hO⟩
theorem acc2_any {w : World} {v : Value} {b : Nat} {p : Option Addr} {c : Nat} (h : IsRows w v [rPaid]) (ha : IsRows w (.slice p 1 c) [rPaid]) (hL : Laid w) : Calls Tryd.prog 14 #[.agg #[.int .i64 0, .int .i64 3, .slice p 1 c, .int .i64 0, .int .i64 0, .slice none 0 0, .int .i64 0, .int .i64 0, .slice none 0 0, .map (some b)], .agg #[.int .i64 0, .int .i64 2, v]] w fun e w' =>
    e = .returned (.tuple #[.agg #[.int .i64 0, .int .i64 0, .slice none 0 0, .int .i64 0, .int .i64 0, .slice none 0 0, .int .i64 0, .int .i64 0, .slice none 0 0, .map none], .int .i64 93]) ∧ Below w.heap.size w w' := by
  have hc : accE inA1 0 2 [rPaid] = 93 := by decide +kernel
  refine (accept_any inA1 0 2 [rPaid] ha (nilRows w) (nilRows w) h inA1_ok (.inr ⟨b, rfl⟩) hL).mono ?_
  intro e w' he
  unfold AccPost at he
  rw [if_neg (by rw [hc]; decide), hc] at he
  exact he
theorem acc3_any {w : World} {b : Nat} {p : Option Addr} {c : Nat} (ha : IsRows w (.slice p 1 c) [rPaid]) (hL : Laid w) : Calls Tryd.prog 14 #[.agg #[.int .i64 0, .int .i64 3, .slice p 1 c, .int .i64 0, .int .i64 0, .slice none 0 0, .int .i64 0, .int .i64 0, .slice none 0 0, .map (some b)], .agg #[.int .i64 0, .int .i64 3, .slice none 0 0]] w fun e w' =>
    e = .returned (.tuple #[.agg #[.int .i64 0, .int .i64 0, .slice none 0 0, .int .i64 0, .int .i64 0, .slice none 0 0, .int .i64 0, .int .i64 0, .slice none 0 0, .map none], .int .i64 93]) ∧ Below w.heap.size w w' := by
  have hc : accE inA1 0 3 [] = 93 := by decide +kernel
  refine (accept_any inA1 0 3 [] ha (nilRows w) (nilRows w) (nilRows w) inA1_ok (.inr ⟨b, rfl⟩) hL).mono ?_
  intro e w' he
  unfold AccPost at he
  rw [if_neg (by rw [hc]; decide), hc] at he
  exact he
theorem acc4_any {w : World} {b : Nat} {p : Option Addr} {c : Nat} (ha : IsRows w (.slice p 1 c) [rPaid]) (hL : Laid w) : Calls Tryd.prog 14 #[.agg #[.int .i64 0, .int .i64 3, .slice p 1 c, .int .i64 0, .int .i64 0, .slice none 0 0, .int .i64 0, .int .i64 0, .slice none 0 0, .map (some b)], .agg #[.int .i64 0, .int .i64 4, .slice none 0 0]] w fun e w' =>
    ∃ b' n' p' c', e = .returned (.tuple #[.agg #[.int .i64 0, .int .i64 4, .slice p' 0 c', .int .i64 0, .int .i64 0, .slice none 0 0, .int .i64 0, .int .i64 0, .slice none 0 0, .map (some b')], .int .i64 0]) ∧ Own w w' [mapE Tryd.prog 43 b' n' (allF inA2), row 45 5 (.slice p' 0 c') (([] : List RowS).map rowC)] := by
  have hc : accE inA1 0 4 [] = 0 := by decide +kernel
  refine (accept_any inA1 0 4 [] ha (nilRows w) (nilRows w) (nilRows w) inA1_ok (.inr ⟨b, rfl⟩) hL).mono ?_
  intro e w' he
  unfold AccPost at he
  rw [if_pos hc] at he
  obtain ⟨b, n, u, hO, ⟨p', c', rfl⟩, rfl⟩ := he
  exact ⟨b, n, p', c', rfl, hO⟩

set_option maxHeartbeats 16000000 in
set_option maxRecDepth 100000 in
theorem taken_any (W : World) (hL : Laid W) : Calls Tryd.prog 12 #[] W fun e w' => e = .returned (.bool true) ∧ Below W.heap.size W w' := by
  have hLW := fun w (hb : Below W.heap.size W w) => hL.below hb hL.1
  have HL := Lib.hid hLW
  have HO := Own.start W
  clear hL hLW
  go_enter Tryd.func12, Tryd.ntmps12
  go_upto_region 2 with (first | (first | go_big_skip | ((with_reducible apply wpList_loadAll HO); exact rfl; exact rfl; (repeat (with_reducible (first | exact At.head _ | apply At.tail))); infer_instance; exact rfl; exact rfl; (simp only [Act.put, List.setIfInBounds_toArray, List.set_cons_succ, List.set_cons_zero])) | ((with_reducible apply wpList_loadOne HO); exact rfl; exact rfl; (repeat (with_reducible (first | exact At.head _ | apply At.tail))); exact rfl; infer_instance; exact rfl; (simp only [Act.put, List.setIfInBounds_toArray, List.set_cons_succ, List.set_cons_zero]))) | ((with_reducible apply wpList_allocAgg _ HO rfl); exact rfl; infer_instance; exact rfl; clear HO; intro b1 w HO; (simp only [Act.put, List.setIfInBounds_toArray, List.set_cons_succ, List.set_cons_zero])))
  go_cut [2, 3] (fun x e wx => ∃ (b2 b n : Nat) (p : Option Addr) (c : Nat), x = .pointer (some ⟨b2, 0, none⟩) ∧ e = .int .i64 0 ∧ Own W wx [box b2 (.cells #[.int .i64 0, .int .i64 3, .slice p 1 c, .int .i64 0, .int .i64 0, .slice none 0 0, .int .i64 0, .int .i64 0, .slice none 0 0, .map (some b)] 32), mapE Tryd.prog 43 b n (allF inA1), row 45 5 (.slice p 1 c) ([rPaid].map rowC), box b1 (.cells #[.int .i64 0, .int .i64 0, .slice none 0 0, .int .i64 0, .int .i64 0, .slice none 0 0, .int .i64 0, .int .i64 0, .slice none 0 0, .map none] 32)])
  case first =>
    refine region_tree [box b1 (.cells #[.int .i64 0, .int .i64 0, .slice none 0 0, .int .i64 0, .int .i64 0, .slice none 0 0, .int .i64 0, .int .i64 0, .slice none 0 0, .map none] 32)] [(0, true), (3, true), (4, true), (5, true), (8, true)] (.fork [(0, true)] 1 6 (.fork [] 2 6 (.fin [(3, true), (4, true), (5, true), (6, false), (7, false), (8, true)]) (.fin [(2, false), (3, true), (4, true), (5, true), (7, false), (8, true)])) (.fin [(1, false), (2, false), (3, true), (4, true), (5, true), (7, false), (8, true)])) HO (by with_reducible (repeat (first | exact List.nil_sublist _ | apply List.Sublist.cons_cons | apply List.Sublist.cons))) (by kernel_rfl) (by kernel_rfl) ?_
    clear HO
    intro w HO
    refine wpS_fork ?_
    repeat (first | ((with_reducible apply wpSched_loadAll); exact rfl; exact rfl; exact rfl; (repeat (with_reducible (first | exact At.head _ | apply At.tail))); infer_instance; exact rfl; exact rfl; (simp only [Act.put, List.setIfInBounds_toArray, List.set_cons_succ, List.set_cons_zero])) | ((with_reducible apply wpSched_pure); exact rfl; exact rfl; (intro w'; go_simp; try with_reducible rfl); (simp only [Act.put, List.setIfInBounds_toArray, List.set_cons_succ, List.set_cons_zero])))
    refine fork_end rfl rfl ?_ ?_
    · go_wp2_with ((go_at_call 43; go_must ((with_reducible refine (paid1_any _ _).mono ?_); rintro e w ⟨b9, rfl, HO1⟩; replace HO := HO.lift HO1; clear HO1; simp only [List.cons_append, List.nil_append] at HO)))
      refine thenQ_keep (HO.held (by with_reducible (repeat (first | exact List.nil_sublist _ | apply List.Sublist.cons_cons | apply List.Sublist.cons)))) ?_
      refine wpS_fork ?_
      refine fork_end rfl rfl ?_ ?_
      · go_wp2_with ((go_at_call 14; go_must ((with_reducible refine (acc1_any (ownRows HO (.head _)) (HL.out _ HO.grown)).mono ?_); rintro e w ⟨b, n, p, c, rfl, HO1⟩; replace HO := HO.lift HO1; clear HO1; simp only [List.cons_append, List.nil_append] at HO)))
        refine thenQ_keep (HO.held (by with_reducible (repeat (first | exact List.nil_sublist _ | apply List.Sublist.cons_cons | apply List.Sublist.cons)))) ?_
        refine wpS_fin ?_
        repeat ((with_reducible apply wpSched_pure); exact rfl; exact rfl; (intro w'; go_simp; try with_reducible rfl); (simp only [Act.put, List.setIfInBounds_toArray, List.set_cons_succ, List.set_cons_zero]))
        ((with_reducible apply wpSched_loud); exact rfl; (first | ((with_reducible apply wpList_boxAgg _ HO rfl); exact rfl; exact rfl; exact rfl; clear HO; intro b2 w HO; (simp only [Act.put, List.setIfInBounds_toArray, List.set_cons_succ, List.set_cons_zero])) | ((with_reducible apply wpList_allocAgg _ HO rfl); exact rfl; infer_instance; exact rfl; clear HO; intro b2 w HO; (simp only [Act.put, List.setIfInBounds_toArray, List.set_cons_succ, List.set_cons_zero])) | ((with_reducible apply wpList_boxOne _ HO rfl); exact rfl; (first | (simp [Act.eval]; rfl) | exact rfl); exact rfl; exact rfl; clear HO; intro b2 w HO; (simp only [Act.put, List.setIfInBounds_toArray, List.set_cons_succ, List.set_cons_zero])) | ((with_reducible apply wpList_alloc _ HO rfl); exact rfl; infer_instance; exact rfl; exact rfl; clear HO; intro b2 w HO; (simp only [Act.put, List.setIfInBounds_toArray, List.set_cons_succ, List.set_cons_zero]))))
        refine wpList_nil (thenQ_keep (HO.held (by with_reducible (repeat (first | exact List.nil_sublist _ | apply List.Sublist.cons_cons | apply List.Sublist.cons)))) ?_)
        ((with_reducible apply wpSched_loud); exact rfl; ((with_reducible apply wpList_storeAll HO); exact rfl; exact rfl; exact rfl; (repeat (with_reducible (first | exact At.head _ | apply At.tail))); infer_instance; exact rfl; exact rfl; exact rfl; exact rfl; clear HO; intro w HO; (simp only [Act.put])))
        refine wpList_nil (thenQ_keep (HO.held (by with_reducible (repeat (first | exact List.nil_sublist _ | apply List.Sublist.cons_cons | apply List.Sublist.cons)))) ?_)
        ((with_reducible apply wpSched_pure); exact rfl; exact rfl; (intro w'; go_simp; try with_reducible rfl); (simp only [Act.put, List.setIfInBounds_toArray, List.set_cons_succ, List.set_cons_zero]))
        refine wpSched_end ?_
        go_wp2_with fail
        go_meet
        exact ⟨b2, b, n, p, c, rfl, rfl, HO.sub (by exact .cons_cons _ (.cons_cons _ (.cons_cons _ (.cons _ (.cons_cons _ (List.Sublist.refl _))))))⟩
      · (first | ((with_reducible apply wpList_boxAgg _ HO rfl); exact rfl; exact rfl; exact rfl; clear HO; intro b2 w HO; (simp only [Act.put, List.setIfInBounds_toArray, List.set_cons_succ, List.set_cons_zero])) | ((with_reducible apply wpList_allocAgg _ HO rfl); exact rfl; infer_instance; exact rfl; clear HO; intro b2 w HO; (simp only [Act.put, List.setIfInBounds_toArray, List.set_cons_succ, List.set_cons_zero])) | ((with_reducible apply wpList_boxOne _ HO rfl); exact rfl; (first | (simp [Act.eval]; rfl) | exact rfl); exact rfl; exact rfl; clear HO; intro b2 w HO; (simp only [Act.put, List.setIfInBounds_toArray, List.set_cons_succ, List.set_cons_zero])) | ((with_reducible apply wpList_alloc _ HO rfl); exact rfl; infer_instance; exact rfl; exact rfl; clear HO; intro b2 w HO; (simp only [Act.put, List.setIfInBounds_toArray, List.set_cons_succ, List.set_cons_zero])))
        refine wpList_nil (thenQ_keep (HO.held (by with_reducible (repeat (first | exact List.nil_sublist _ | apply List.Sublist.cons_cons | apply List.Sublist.cons)))) ?_)
        refine wpS_fin ?_
        ((with_reducible apply wpSched_loud); exact rfl; go_wp2_with ((go_at_call 14; go_must ((with_reducible refine (acc1_any (ownRows HO (.tail _ _ _ (.head _))) (HL.out _ HO.grown)).mono ?_); rintro e w ⟨b, n, p, c, rfl, HO1⟩; replace HO := HO.lift HO1; clear HO1; simp only [List.cons_append, List.nil_append] at HO))))
        refine thenQ_keep (HO.held (by with_reducible (repeat (first | exact List.nil_sublist _ | apply List.Sublist.cons_cons | apply List.Sublist.cons)))) ?_
        repeat ((with_reducible apply wpSched_pure); exact rfl; exact rfl; (intro w'; go_simp; try with_reducible rfl); (simp only [Act.put, List.setIfInBounds_toArray, List.set_cons_succ, List.set_cons_zero]))
        ((with_reducible apply wpSched_loud); exact rfl; ((with_reducible apply wpList_storeAll HO); exact rfl; exact rfl; exact rfl; (repeat (with_reducible (first | exact At.head _ | apply At.tail))); infer_instance; exact rfl; exact rfl; exact rfl; exact rfl; clear HO; intro w HO; (simp only [Act.put])))
        refine wpList_nil (thenQ_keep (HO.held (by with_reducible (repeat (first | exact List.nil_sublist _ | apply List.Sublist.cons_cons | apply List.Sublist.cons)))) ?_)
        ((with_reducible apply wpSched_pure); exact rfl; exact rfl; (intro w'; go_simp; try with_reducible rfl); (simp only [Act.put, List.setIfInBounds_toArray, List.set_cons_succ, List.set_cons_zero]))
        refine wpSched_end ?_
        go_wp2_with fail
        go_meet
        exact ⟨b2, b, n, p, c, rfl, rfl, (HO.sub (by exact .cons_cons _ (.cons_cons _ (.cons_cons _ (.cons _ (.cons_cons _ (List.Sublist.refl _))))))).front3⟩
    · (first | ((with_reducible apply wpList_boxAgg _ HO rfl); exact rfl; exact rfl; exact rfl; clear HO; intro b2 w HO; (simp only [Act.put, List.setIfInBounds_toArray, List.set_cons_succ, List.set_cons_zero])) | ((with_reducible apply wpList_allocAgg _ HO rfl); exact rfl; infer_instance; exact rfl; clear HO; intro b2 w HO; (simp only [Act.put, List.setIfInBounds_toArray, List.set_cons_succ, List.set_cons_zero])) | ((with_reducible apply wpList_boxOne _ HO rfl); exact rfl; (first | (simp [Act.eval]; rfl) | exact rfl); exact rfl; exact rfl; clear HO; intro b2 w HO; (simp only [Act.put, List.setIfInBounds_toArray, List.set_cons_succ, List.set_cons_zero])) | ((with_reducible apply wpList_alloc _ HO rfl); exact rfl; infer_instance; exact rfl; exact rfl; clear HO; intro b2 w HO; (simp only [Act.put, List.setIfInBounds_toArray, List.set_cons_succ, List.set_cons_zero])))
      refine wpList_nil (thenQ_keep (HO.held (by with_reducible (repeat (first | exact List.nil_sublist _ | apply List.Sublist.cons_cons | apply List.Sublist.cons)))) ?_)
      refine wpS_fin ?_
      ((with_reducible apply wpSched_loud); exact rfl; go_wp2_with ((go_at_call 43; go_must ((with_reducible refine (paid1_any _ _).mono ?_); rintro e w ⟨b9, rfl, HO1⟩; replace HO := HO.lift HO1; clear HO1; simp only [List.cons_append, List.nil_append] at HO))))
      refine thenQ_keep (HO.held (by with_reducible (repeat (first | exact List.nil_sublist _ | apply List.Sublist.cons_cons | apply List.Sublist.cons)))) ?_
      ((with_reducible apply wpSched_loud); exact rfl; go_wp2_with ((go_at_call 14; go_must ((with_reducible refine (acc1_any (ownRows HO (.head _)) (HL.out _ HO.grown)).mono ?_); rintro e w ⟨b, n, p, c, rfl, HO1⟩; replace HO := HO.lift HO1; clear HO1; simp only [List.cons_append, List.nil_append] at HO))))
      refine thenQ_keep (HO.held (by with_reducible (repeat (first | exact List.nil_sublist _ | apply List.Sublist.cons_cons | apply List.Sublist.cons)))) ?_
      repeat ((with_reducible apply wpSched_pure); exact rfl; exact rfl; (intro w'; go_simp; try with_reducible rfl); (simp only [Act.put, List.setIfInBounds_toArray, List.set_cons_succ, List.set_cons_zero]))
      ((with_reducible apply wpSched_loud); exact rfl; ((with_reducible apply wpList_storeAll HO); exact rfl; exact rfl; exact rfl; (repeat (with_reducible (first | exact At.head _ | apply At.tail))); infer_instance; exact rfl; exact rfl; exact rfl; exact rfl; clear HO; intro w HO; (simp only [Act.put])))
      refine wpList_nil (thenQ_keep (HO.held (by with_reducible (repeat (first | exact List.nil_sublist _ | apply List.Sublist.cons_cons | apply List.Sublist.cons)))) ?_)
      ((with_reducible apply wpSched_pure); exact rfl; exact rfl; (intro w'; go_simp; try with_reducible rfl); (simp only [Act.put, List.setIfInBounds_toArray, List.set_cons_succ, List.set_cons_zero]))
      refine wpSched_end ?_
      go_wp2_with fail
      go_meet
      exact ⟨b2, b, n, p, c, rfl, rfl, (HO.sub (by exact .cons_cons _ (.cons_cons _ (.cons _ (.cons_cons _ (.cons_cons _ (List.Sublist.refl _))))))).front3⟩
  clear HO
  obtain ⟨b2, b, n, p, c, rfl, rfl, HO⟩ := hcut
  go_upto_region 3 with fail
  go_cut [5] (fun f wx => f = .int .i64 93 ∧ Own W wx [box b2 (.cells #[.int .i64 0, .int .i64 3, .slice p 1 c, .int .i64 0, .int .i64 0, .slice none 0 0, .int .i64 0, .int .i64 0, .slice none 0 0, .map (some b)] 32), mapE Tryd.prog 43 b n (allF inA1), row 45 5 (.slice p 1 c) ([rPaid].map rowC), box b1 (.cells #[.int .i64 0, .int .i64 0, .slice none 0 0, .int .i64 0, .int .i64 0, .slice none 0 0, .int .i64 0, .int .i64 0, .slice none 0 0, .map none] 32)])
  case first =>
    refine region_tree [box b2 (.cells #[.int .i64 0, .int .i64 3, .slice p 1 c, .int .i64 0, .int .i64 0, .slice none 0 0, .int .i64 0, .int .i64 0, .slice none 0 0, .map (some b)] 32)] [(0, true), (3, true), (4, true), (5, true), (8, true)] (.fork [(0, true)] 1 6 (.fork [] 2 6 (.fin [(3, true), (4, true), (5, true), (6, false), (7, false), (8, true)]) (.fin [(2, false), (3, true), (4, true), (5, true), (7, false), (8, true)])) (.fin [(1, false), (2, false), (3, true), (4, true), (5, true), (7, false), (8, true)])) HO (by with_reducible (repeat (first | exact List.nil_sublist _ | apply List.Sublist.cons_cons | apply List.Sublist.cons))) (by kernel_rfl) (by kernel_rfl) ?_
    clear HO
    intro w HO
    refine wpS_fork ?_
    repeat (first | ((with_reducible apply wpSched_loadAll); exact rfl; exact rfl; exact rfl; (repeat (with_reducible (first | exact At.head _ | apply At.tail))); infer_instance; exact rfl; exact rfl; (simp only [Act.put, List.setIfInBounds_toArray, List.set_cons_succ, List.set_cons_zero])) | ((with_reducible apply wpSched_pure); exact rfl; exact rfl; (intro w'; go_simp; try with_reducible rfl); (simp only [Act.put, List.setIfInBounds_toArray, List.set_cons_succ, List.set_cons_zero])))
    refine fork_end rfl rfl ?_ ?_
    · go_wp2_with ((go_at_call 43; go_must ((with_reducible refine (paid1_any _ _).mono ?_); rintro e w ⟨b9, rfl, HO1⟩; replace HO := HO.lift HO1; clear HO1; simp only [List.cons_append, List.nil_append] at HO)))
      refine thenQ_keep (HO.held (by with_reducible (repeat (first | exact List.nil_sublist _ | apply List.Sublist.cons_cons | apply List.Sublist.cons)))) ?_
      refine wpS_fork ?_
      refine fork_end rfl rfl ?_ ?_
      · go_wp2_with ((go_at_call 14; go_must ((with_reducible refine (acc2_any (ownRows HO (.head _)) (ownRows HO (.tail _ _ _ (.tail _ _ _ (.tail _ _ _ (.head _))))) (HL.out _ HO.grown)).mono ?_); rintro e w ⟨rfl, hb⟩; replace HO := HO.call hb; clear hb)))
        refine thenQ_keep (HO.held (by with_reducible (repeat (first | exact List.nil_sublist _ | apply List.Sublist.cons_cons | apply List.Sublist.cons)))) ?_
        refine wpS_fin ?_
        repeat ((with_reducible apply wpSched_pure); exact rfl; exact rfl; (intro w'; go_simp; try with_reducible rfl); (simp only [Act.put, List.setIfInBounds_toArray, List.set_cons_succ, List.set_cons_zero]))
        ((with_reducible apply wpSched_loud); exact rfl; (first | ((with_reducible apply wpList_boxAgg _ HO rfl); exact rfl; exact rfl; exact rfl; clear HO; intro b4 w HO; (simp only [Act.put, List.setIfInBounds_toArray, List.set_cons_succ, List.set_cons_zero])) | ((with_reducible apply wpList_allocAgg _ HO rfl); exact rfl; infer_instance; exact rfl; clear HO; intro b4 w HO; (simp only [Act.put, List.setIfInBounds_toArray, List.set_cons_succ, List.set_cons_zero])) | ((with_reducible apply wpList_boxOne _ HO rfl); exact rfl; (first | (simp [Act.eval]; rfl) | exact rfl); exact rfl; exact rfl; clear HO; intro b4 w HO; (simp only [Act.put, List.setIfInBounds_toArray, List.set_cons_succ, List.set_cons_zero])) | ((with_reducible apply wpList_alloc _ HO rfl); exact rfl; infer_instance; exact rfl; exact rfl; clear HO; intro b4 w HO; (simp only [Act.put, List.setIfInBounds_toArray, List.set_cons_succ, List.set_cons_zero]))))
        refine wpList_nil (thenQ_keep (HO.held (by with_reducible (repeat (first | exact List.nil_sublist _ | apply List.Sublist.cons_cons | apply List.Sublist.cons)))) ?_)
        ((with_reducible apply wpSched_loud); exact rfl; ((with_reducible apply wpList_storeAll HO); exact rfl; exact rfl; exact rfl; (repeat (with_reducible (first | exact At.head _ | apply At.tail))); infer_instance; exact rfl; exact rfl; exact rfl; exact rfl; clear HO; intro w HO; (simp only [Act.put])))
        refine wpList_nil (thenQ_keep (HO.held (by with_reducible (repeat (first | exact List.nil_sublist _ | apply List.Sublist.cons_cons | apply List.Sublist.cons)))) ?_)
        ((with_reducible apply wpSched_pure); exact rfl; exact rfl; (intro w'; go_simp; try with_reducible rfl); (simp only [Act.put, List.setIfInBounds_toArray, List.set_cons_succ, List.set_cons_zero]))
        refine wpSched_end ?_
        go_wp2_with fail
        go_meet
        exact ⟨rfl, HO.sub (by exact .cons _ (.cons _ (.cons_cons _ (.cons_cons _ (.cons_cons _ (.cons_cons _ (List.Sublist.refl _)))))))⟩
      · (first | ((with_reducible apply wpList_boxAgg _ HO rfl); exact rfl; exact rfl; exact rfl; clear HO; intro b4 w HO; (simp only [Act.put, List.setIfInBounds_toArray, List.set_cons_succ, List.set_cons_zero])) | ((with_reducible apply wpList_allocAgg _ HO rfl); exact rfl; infer_instance; exact rfl; clear HO; intro b4 w HO; (simp only [Act.put, List.setIfInBounds_toArray, List.set_cons_succ, List.set_cons_zero])) | ((with_reducible apply wpList_boxOne _ HO rfl); exact rfl; (first | (simp [Act.eval]; rfl) | exact rfl); exact rfl; exact rfl; clear HO; intro b4 w HO; (simp only [Act.put, List.setIfInBounds_toArray, List.set_cons_succ, List.set_cons_zero])) | ((with_reducible apply wpList_alloc _ HO rfl); exact rfl; infer_instance; exact rfl; exact rfl; clear HO; intro b4 w HO; (simp only [Act.put, List.setIfInBounds_toArray, List.set_cons_succ, List.set_cons_zero])))
        refine wpList_nil (thenQ_keep (HO.held (by with_reducible (repeat (first | exact List.nil_sublist _ | apply List.Sublist.cons_cons | apply List.Sublist.cons)))) ?_)
        refine wpS_fin ?_
        ((with_reducible apply wpSched_loud); exact rfl; go_wp2_with ((go_at_call 14; go_must ((with_reducible refine (acc2_any (ownRows HO (.tail _ _ _ (.head _))) (ownRows HO (.tail _ _ _ (.tail _ _ _ (.tail _ _ _ (.tail _ _ _ (.head _)))))) (HL.out _ HO.grown)).mono ?_); rintro e w ⟨rfl, hb⟩; replace HO := HO.call hb; clear hb))))
        refine thenQ_keep (HO.held (by with_reducible (repeat (first | exact List.nil_sublist _ | apply List.Sublist.cons_cons | apply List.Sublist.cons)))) ?_
        repeat ((with_reducible apply wpSched_pure); exact rfl; exact rfl; (intro w'; go_simp; try with_reducible rfl); (simp only [Act.put, List.setIfInBounds_toArray, List.set_cons_succ, List.set_cons_zero]))
        ((with_reducible apply wpSched_loud); exact rfl; ((with_reducible apply wpList_storeAll HO); exact rfl; exact rfl; exact rfl; (repeat (with_reducible (first | exact At.head _ | apply At.tail))); infer_instance; exact rfl; exact rfl; exact rfl; exact rfl; clear HO; intro w HO; (simp only [Act.put])))
        refine wpList_nil (thenQ_keep (HO.held (by with_reducible (repeat (first | exact List.nil_sublist _ | apply List.Sublist.cons_cons | apply List.Sublist.cons)))) ?_)
        ((with_reducible apply wpSched_pure); exact rfl; exact rfl; (intro w'; go_simp; try with_reducible rfl); (simp only [Act.put, List.setIfInBounds_toArray, List.set_cons_succ, List.set_cons_zero]))
        refine wpSched_end ?_
        go_wp2_with fail
        go_meet
        exact ⟨rfl, HO.sub (by exact .cons _ (.cons _ (.cons_cons _ (.cons_cons _ (.cons_cons _ (.cons_cons _ (List.Sublist.refl _)))))))⟩
    · (first | ((with_reducible apply wpList_boxAgg _ HO rfl); exact rfl; exact rfl; exact rfl; clear HO; intro b4 w HO; (simp only [Act.put, List.setIfInBounds_toArray, List.set_cons_succ, List.set_cons_zero])) | ((with_reducible apply wpList_allocAgg _ HO rfl); exact rfl; infer_instance; exact rfl; clear HO; intro b4 w HO; (simp only [Act.put, List.setIfInBounds_toArray, List.set_cons_succ, List.set_cons_zero])) | ((with_reducible apply wpList_boxOne _ HO rfl); exact rfl; (first | (simp [Act.eval]; rfl) | exact rfl); exact rfl; exact rfl; clear HO; intro b4 w HO; (simp only [Act.put, List.setIfInBounds_toArray, List.set_cons_succ, List.set_cons_zero])) | ((with_reducible apply wpList_alloc _ HO rfl); exact rfl; infer_instance; exact rfl; exact rfl; clear HO; intro b4 w HO; (simp only [Act.put, List.setIfInBounds_toArray, List.set_cons_succ, List.set_cons_zero])))
      refine wpList_nil (thenQ_keep (HO.held (by with_reducible (repeat (first | exact List.nil_sublist _ | apply List.Sublist.cons_cons | apply List.Sublist.cons)))) ?_)
      refine wpS_fin ?_
      ((with_reducible apply wpSched_loud); exact rfl; go_wp2_with ((go_at_call 43; go_must ((with_reducible refine (paid1_any _ _).mono ?_); rintro e w ⟨b9, rfl, HO1⟩; replace HO := HO.lift HO1; clear HO1; simp only [List.cons_append, List.nil_append] at HO))))
      refine thenQ_keep (HO.held (by with_reducible (repeat (first | exact List.nil_sublist _ | apply List.Sublist.cons_cons | apply List.Sublist.cons)))) ?_
      ((with_reducible apply wpSched_loud); exact rfl; go_wp2_with ((go_at_call 14; go_must ((with_reducible refine (acc2_any (ownRows HO (.head _)) (ownRows HO (.tail _ _ _ (.tail _ _ _ (.tail _ _ _ (.tail _ _ _ (.head _)))))) (HL.out _ HO.grown)).mono ?_); rintro e w ⟨rfl, hb⟩; replace HO := HO.call hb; clear hb))))
      refine thenQ_keep (HO.held (by with_reducible (repeat (first | exact List.nil_sublist _ | apply List.Sublist.cons_cons | apply List.Sublist.cons)))) ?_
      repeat ((with_reducible apply wpSched_pure); exact rfl; exact rfl; (intro w'; go_simp; try with_reducible rfl); (simp only [Act.put, List.setIfInBounds_toArray, List.set_cons_succ, List.set_cons_zero]))
      ((with_reducible apply wpSched_loud); exact rfl; ((with_reducible apply wpList_storeAll HO); exact rfl; exact rfl; exact rfl; (repeat (with_reducible (first | exact At.head _ | apply At.tail))); infer_instance; exact rfl; exact rfl; exact rfl; exact rfl; clear HO; intro w HO; (simp only [Act.put])))
      refine wpList_nil (thenQ_keep (HO.held (by with_reducible (repeat (first | exact List.nil_sublist _ | apply List.Sublist.cons_cons | apply List.Sublist.cons)))) ?_)
      ((with_reducible apply wpSched_pure); exact rfl; exact rfl; (intro w'; go_simp; try with_reducible rfl); (simp only [Act.put, List.setIfInBounds_toArray, List.set_cons_succ, List.set_cons_zero]))
      refine wpSched_end ?_
      go_wp2_with fail
      go_meet
      exact ⟨rfl, HO.sub (by exact .cons _ (.cons _ (.cons_cons _ (.cons_cons _ (.cons_cons _ (.cons_cons _ (List.Sublist.refl _)))))))⟩
  clear HO
  obtain ⟨rfl, HO⟩ := hcut
  go_upto_region 4 with fail
  go_cut [7] (fun f wx => f = .int .i64 93 ∧ Own W wx [box b2 (.cells #[.int .i64 0, .int .i64 3, .slice p 1 c, .int .i64 0, .int .i64 0, .slice none 0 0, .int .i64 0, .int .i64 0, .slice none 0 0, .map (some b)] 32), mapE Tryd.prog 43 b n (allF inA1), row 45 5 (.slice p 1 c) ([rPaid].map rowC), box b1 (.cells #[.int .i64 0, .int .i64 0, .slice none 0 0, .int .i64 0, .int .i64 0, .slice none 0 0, .int .i64 0, .int .i64 0, .slice none 0 0, .map none] 32)])
  case first =>
    refine region_tree [box b2 (.cells #[.int .i64 0, .int .i64 3, .slice p 1 c, .int .i64 0, .int .i64 0, .slice none 0 0, .int .i64 0, .int .i64 0, .slice none 0 0, .map (some b)] 32)] [(0, true), (3, true), (4, true), (5, true), (8, true)] (.fork [(0, true)] 1 6 (.fork [] 2 6 (.fin [(3, true), (4, true), (5, true), (6, false), (7, false), (8, true)]) (.fin [(2, false), (3, true), (4, true), (5, true), (7, false), (8, true)])) (.fin [(1, false), (2, false), (3, true), (4, true), (5, true), (7, false), (8, true)])) HO (by with_reducible (repeat (first | exact List.nil_sublist _ | apply List.Sublist.cons_cons | apply List.Sublist.cons))) (by kernel_rfl) (by kernel_rfl) ?_
    clear HO
    intro w HO
    refine wpS_fork ?_
    repeat (first | ((with_reducible apply wpSched_loadAll); exact rfl; exact rfl; exact rfl; (repeat (with_reducible (first | exact At.head _ | apply At.tail))); infer_instance; exact rfl; exact rfl; (simp only [Act.put, List.setIfInBounds_toArray, List.set_cons_succ, List.set_cons_zero])) | ((with_reducible apply wpSched_pure); exact rfl; exact rfl; (intro w'; go_simp; try with_reducible rfl); (simp only [Act.put, List.setIfInBounds_toArray, List.set_cons_succ, List.set_cons_zero])))
    refine fork_end rfl rfl ?_ ?_
    · go_wp2_with ((go_at_call 43; go_must ((with_reducible refine (paid0_any _ _).mono ?_); rintro e w ⟨rfl, hb⟩; replace HO := HO.call hb; clear hb)))
      refine thenQ_keep (HO.held (by with_reducible (repeat (first | exact List.nil_sublist _ | apply List.Sublist.cons_cons | apply List.Sublist.cons)))) ?_
      refine wpS_fork ?_
      refine fork_end rfl rfl ?_ ?_
      · go_wp2_with ((go_at_call 14; go_must ((with_reducible refine (acc3_any (ownRows HO (.tail _ _ _ (.tail _ _ _ (.head _)))) (HL.out _ HO.grown)).mono ?_); rintro e w ⟨rfl, hb⟩; replace HO := HO.call hb; clear hb)))
        refine thenQ_keep (HO.held (by with_reducible (repeat (first | exact List.nil_sublist _ | apply List.Sublist.cons_cons | apply List.Sublist.cons)))) ?_
        refine wpS_fin ?_
        repeat ((with_reducible apply wpSched_pure); exact rfl; exact rfl; (intro w'; go_simp; try with_reducible rfl); (simp only [Act.put, List.setIfInBounds_toArray, List.set_cons_succ, List.set_cons_zero]))
        ((with_reducible apply wpSched_loud); exact rfl; (first | ((with_reducible apply wpList_boxAgg _ HO rfl); exact rfl; exact rfl; exact rfl; clear HO; intro b4 w HO; (simp only [Act.put, List.setIfInBounds_toArray, List.set_cons_succ, List.set_cons_zero])) | ((with_reducible apply wpList_allocAgg _ HO rfl); exact rfl; infer_instance; exact rfl; clear HO; intro b4 w HO; (simp only [Act.put, List.setIfInBounds_toArray, List.set_cons_succ, List.set_cons_zero])) | ((with_reducible apply wpList_boxOne _ HO rfl); exact rfl; (first | (simp [Act.eval]; rfl) | exact rfl); exact rfl; exact rfl; clear HO; intro b4 w HO; (simp only [Act.put, List.setIfInBounds_toArray, List.set_cons_succ, List.set_cons_zero])) | ((with_reducible apply wpList_alloc _ HO rfl); exact rfl; infer_instance; exact rfl; exact rfl; clear HO; intro b4 w HO; (simp only [Act.put, List.setIfInBounds_toArray, List.set_cons_succ, List.set_cons_zero]))))
        refine wpList_nil (thenQ_keep (HO.held (by with_reducible (repeat (first | exact List.nil_sublist _ | apply List.Sublist.cons_cons | apply List.Sublist.cons)))) ?_)
        ((with_reducible apply wpSched_loud); exact rfl; ((with_reducible apply wpList_storeAll HO); exact rfl; exact rfl; exact rfl; (repeat (with_reducible (first | exact At.head _ | apply At.tail))); infer_instance; exact rfl; exact rfl; exact rfl; exact rfl; clear HO; intro w HO; (simp only [Act.put])))
        refine wpList_nil (thenQ_keep (HO.held (by with_reducible (repeat (first | exact List.nil_sublist _ | apply List.Sublist.cons_cons | apply List.Sublist.cons)))) ?_)
        ((with_reducible apply wpSched_pure); exact rfl; exact rfl; (intro w'; go_simp; try with_reducible rfl); (simp only [Act.put, List.setIfInBounds_toArray, List.set_cons_succ, List.set_cons_zero]))
        refine wpSched_end ?_
        go_wp2_with fail
        go_meet
        exact ⟨rfl, HO.sub (by exact .cons _ (.cons_cons _ (.cons_cons _ (.cons_cons _ (.cons_cons _ (List.Sublist.refl _))))))⟩
      · (first | ((with_reducible apply wpList_boxAgg _ HO rfl); exact rfl; exact rfl; exact rfl; clear HO; intro b4 w HO; (simp only [Act.put, List.setIfInBounds_toArray, List.set_cons_succ, List.set_cons_zero])) | ((with_reducible apply wpList_allocAgg _ HO rfl); exact rfl; infer_instance; exact rfl; clear HO; intro b4 w HO; (simp only [Act.put, List.setIfInBounds_toArray, List.set_cons_succ, List.set_cons_zero])) | ((with_reducible apply wpList_boxOne _ HO rfl); exact rfl; (first | (simp [Act.eval]; rfl) | exact rfl); exact rfl; exact rfl; clear HO; intro b4 w HO; (simp only [Act.put, List.setIfInBounds_toArray, List.set_cons_succ, List.set_cons_zero])) | ((with_reducible apply wpList_alloc _ HO rfl); exact rfl; infer_instance; exact rfl; exact rfl; clear HO; intro b4 w HO; (simp only [Act.put, List.setIfInBounds_toArray, List.set_cons_succ, List.set_cons_zero])))
        refine wpList_nil (thenQ_keep (HO.held (by with_reducible (repeat (first | exact List.nil_sublist _ | apply List.Sublist.cons_cons | apply List.Sublist.cons)))) ?_)
        refine wpS_fin ?_
        ((with_reducible apply wpSched_loud); exact rfl; go_wp2_with ((go_at_call 14; go_must ((with_reducible refine (acc3_any (ownRows HO (.tail _ _ _ (.tail _ _ _ (.tail _ _ _ (.head _))))) (HL.out _ HO.grown)).mono ?_); rintro e w ⟨rfl, hb⟩; replace HO := HO.call hb; clear hb))))
        refine thenQ_keep (HO.held (by with_reducible (repeat (first | exact List.nil_sublist _ | apply List.Sublist.cons_cons | apply List.Sublist.cons)))) ?_
        repeat ((with_reducible apply wpSched_pure); exact rfl; exact rfl; (intro w'; go_simp; try with_reducible rfl); (simp only [Act.put, List.setIfInBounds_toArray, List.set_cons_succ, List.set_cons_zero]))
        ((with_reducible apply wpSched_loud); exact rfl; ((with_reducible apply wpList_storeAll HO); exact rfl; exact rfl; exact rfl; (repeat (with_reducible (first | exact At.head _ | apply At.tail))); infer_instance; exact rfl; exact rfl; exact rfl; exact rfl; clear HO; intro w HO; (simp only [Act.put])))
        refine wpList_nil (thenQ_keep (HO.held (by with_reducible (repeat (first | exact List.nil_sublist _ | apply List.Sublist.cons_cons | apply List.Sublist.cons)))) ?_)
        ((with_reducible apply wpSched_pure); exact rfl; exact rfl; (intro w'; go_simp; try with_reducible rfl); (simp only [Act.put, List.setIfInBounds_toArray, List.set_cons_succ, List.set_cons_zero]))
        refine wpSched_end ?_
        go_wp2_with fail
        go_meet
        exact ⟨rfl, HO.sub (by exact .cons _ (.cons_cons _ (.cons_cons _ (.cons_cons _ (.cons_cons _ (List.Sublist.refl _))))))⟩
    · (first | ((with_reducible apply wpList_boxAgg _ HO rfl); exact rfl; exact rfl; exact rfl; clear HO; intro b4 w HO; (simp only [Act.put, List.setIfInBounds_toArray, List.set_cons_succ, List.set_cons_zero])) | ((with_reducible apply wpList_allocAgg _ HO rfl); exact rfl; infer_instance; exact rfl; clear HO; intro b4 w HO; (simp only [Act.put, List.setIfInBounds_toArray, List.set_cons_succ, List.set_cons_zero])) | ((with_reducible apply wpList_boxOne _ HO rfl); exact rfl; (first | (simp [Act.eval]; rfl) | exact rfl); exact rfl; exact rfl; clear HO; intro b4 w HO; (simp only [Act.put, List.setIfInBounds_toArray, List.set_cons_succ, List.set_cons_zero])) | ((with_reducible apply wpList_alloc _ HO rfl); exact rfl; infer_instance; exact rfl; exact rfl; clear HO; intro b4 w HO; (simp only [Act.put, List.setIfInBounds_toArray, List.set_cons_succ, List.set_cons_zero])))
      refine wpList_nil (thenQ_keep (HO.held (by with_reducible (repeat (first | exact List.nil_sublist _ | apply List.Sublist.cons_cons | apply List.Sublist.cons)))) ?_)
      refine wpS_fin ?_
      ((with_reducible apply wpSched_loud); exact rfl; go_wp2_with ((go_at_call 43; go_must ((with_reducible refine (paid0_any _ _).mono ?_); rintro e w ⟨rfl, hb⟩; replace HO := HO.call hb; clear hb))))
      refine thenQ_keep (HO.held (by with_reducible (repeat (first | exact List.nil_sublist _ | apply List.Sublist.cons_cons | apply List.Sublist.cons)))) ?_
      ((with_reducible apply wpSched_loud); exact rfl; go_wp2_with ((go_at_call 14; go_must ((with_reducible refine (acc3_any (ownRows HO (.tail _ _ _ (.tail _ _ _ (.tail _ _ _ (.head _))))) (HL.out _ HO.grown)).mono ?_); rintro e w ⟨rfl, hb⟩; replace HO := HO.call hb; clear hb))))
      refine thenQ_keep (HO.held (by with_reducible (repeat (first | exact List.nil_sublist _ | apply List.Sublist.cons_cons | apply List.Sublist.cons)))) ?_
      repeat ((with_reducible apply wpSched_pure); exact rfl; exact rfl; (intro w'; go_simp; try with_reducible rfl); (simp only [Act.put, List.setIfInBounds_toArray, List.set_cons_succ, List.set_cons_zero]))
      ((with_reducible apply wpSched_loud); exact rfl; ((with_reducible apply wpList_storeAll HO); exact rfl; exact rfl; exact rfl; (repeat (with_reducible (first | exact At.head _ | apply At.tail))); infer_instance; exact rfl; exact rfl; exact rfl; exact rfl; clear HO; intro w HO; (simp only [Act.put])))
      refine wpList_nil (thenQ_keep (HO.held (by with_reducible (repeat (first | exact List.nil_sublist _ | apply List.Sublist.cons_cons | apply List.Sublist.cons)))) ?_)
      ((with_reducible apply wpSched_pure); exact rfl; exact rfl; (intro w'; go_simp; try with_reducible rfl); (simp only [Act.put, List.setIfInBounds_toArray, List.set_cons_succ, List.set_cons_zero]))
      refine wpSched_end ?_
      go_wp2_with fail
      go_meet
      exact ⟨rfl, HO.sub (by exact .cons _ (.cons_cons _ (.cons_cons _ (.cons_cons _ (.cons_cons _ (List.Sublist.refl _))))))⟩
  clear HO
  obtain ⟨rfl, HO⟩ := hcut
  go_upto_region 5 with fail
  go_cut [8, 9] (fun x e wx => ∃ (b8 b' n' : Nat) (p' : Option Addr) (c' : Nat), x = .pointer (some ⟨b8, 0, none⟩) ∧ e = .int .i64 0 ∧ Own W wx [box b8 (.cells #[.int .i64 0, .int .i64 4, .slice p' 0 c', .int .i64 0, .int .i64 0, .slice none 0 0, .int .i64 0, .int .i64 0, .slice none 0 0, .map (some b')] 32), mapE Tryd.prog 43 b' n' (allF inA2), row 45 5 (.slice p' 0 c') (([] : List RowS).map rowC), box b2 (.cells #[.int .i64 0, .int .i64 3, .slice p 1 c, .int .i64 0, .int .i64 0, .slice none 0 0, .int .i64 0, .int .i64 0, .slice none 0 0, .map (some b)] 32), mapE Tryd.prog 43 b n (allF inA1), row 45 5 (.slice p 1 c) ([rPaid].map rowC), box b1 (.cells #[.int .i64 0, .int .i64 0, .slice none 0 0, .int .i64 0, .int .i64 0, .slice none 0 0, .int .i64 0, .int .i64 0, .slice none 0 0, .map none] 32)])
  case first =>
    refine region_tree [box b2 (.cells #[.int .i64 0, .int .i64 3, .slice p 1 c, .int .i64 0, .int .i64 0, .slice none 0 0, .int .i64 0, .int .i64 0, .slice none 0 0, .map (some b)] 32)] [(0, true), (3, true), (4, true), (5, true), (8, true)] (.fork [(0, true)] 1 6 (.fork [] 2 6 (.fin [(3, true), (4, true), (5, true), (6, false), (7, false), (8, true)]) (.fin [(2, false), (3, true), (4, true), (5, true), (7, false), (8, true)])) (.fin [(1, false), (2, false), (3, true), (4, true), (5, true), (7, false), (8, true)])) HO (by with_reducible (repeat (first | exact List.nil_sublist _ | apply List.Sublist.cons_cons | apply List.Sublist.cons))) (by kernel_rfl) (by kernel_rfl) ?_
    clear HO
    intro w HO
    refine wpS_fork ?_
    repeat (first | ((with_reducible apply wpSched_loadAll); exact rfl; exact rfl; exact rfl; (repeat (with_reducible (first | exact At.head _ | apply At.tail))); infer_instance; exact rfl; exact rfl; (simp only [Act.put, List.setIfInBounds_toArray, List.set_cons_succ, List.set_cons_zero])) | ((with_reducible apply wpSched_pure); exact rfl; exact rfl; (intro w'; go_simp; try with_reducible rfl); (simp only [Act.put, List.setIfInBounds_toArray, List.set_cons_succ, List.set_cons_zero])))
    refine fork_end rfl rfl ?_ ?_
    · go_wp2_with ((go_at_call 43; go_must ((with_reducible refine (paid0_any _ _).mono ?_); rintro e w ⟨rfl, hb⟩; replace HO := HO.call hb; clear hb)))
      refine thenQ_keep (HO.held (by with_reducible (repeat (first | exact List.nil_sublist _ | apply List.Sublist.cons_cons | apply List.Sublist.cons)))) ?_
      refine wpS_fork ?_
      refine fork_end rfl rfl ?_ ?_
      · go_wp2_with ((go_at_call 14; go_must ((with_reducible refine (acc4_any (ownRows HO (.tail _ _ _ (.tail _ _ _ (.head _)))) (HL.out _ HO.grown)).mono ?_); rintro e w ⟨b', n', p', c', rfl, HO1⟩; replace HO := HO.lift HO1; clear HO1; simp only [List.cons_append, List.nil_append] at HO)))
        refine thenQ_keep (HO.held (by with_reducible (repeat (first | exact List.nil_sublist _ | apply List.Sublist.cons_cons | apply List.Sublist.cons)))) ?_
        refine wpS_fin ?_
        repeat ((with_reducible apply wpSched_pure); exact rfl; exact rfl; (intro w'; go_simp; try with_reducible rfl); (simp only [Act.put, List.setIfInBounds_toArray, List.set_cons_succ, List.set_cons_zero]))
        ((with_reducible apply wpSched_loud); exact rfl; (first | ((with_reducible apply wpList_boxAgg _ HO rfl); exact rfl; exact rfl; exact rfl; clear HO; intro b8 w HO; (simp only [Act.put, List.setIfInBounds_toArray, List.set_cons_succ, List.set_cons_zero])) | ((with_reducible apply wpList_allocAgg _ HO rfl); exact rfl; infer_instance; exact rfl; clear HO; intro b8 w HO; (simp only [Act.put, List.setIfInBounds_toArray, List.set_cons_succ, List.set_cons_zero])) | ((with_reducible apply wpList_boxOne _ HO rfl); exact rfl; (first | (simp [Act.eval]; rfl) | exact rfl); exact rfl; exact rfl; clear HO; intro b8 w HO; (simp only [Act.put, List.setIfInBounds_toArray, List.set_cons_succ, List.set_cons_zero])) | ((with_reducible apply wpList_alloc _ HO rfl); exact rfl; infer_instance; exact rfl; exact rfl; clear HO; intro b8 w HO; (simp only [Act.put, List.setIfInBounds_toArray, List.set_cons_succ, List.set_cons_zero]))))
        refine wpList_nil (thenQ_keep (HO.held (by with_reducible (repeat (first | exact List.nil_sublist _ | apply List.Sublist.cons_cons | apply List.Sublist.cons)))) ?_)
        ((with_reducible apply wpSched_loud); exact rfl; ((with_reducible apply wpList_storeAll HO); exact rfl; exact rfl; exact rfl; (repeat (with_reducible (first | exact At.head _ | apply At.tail))); infer_instance; exact rfl; exact rfl; exact rfl; exact rfl; clear HO; intro w HO; (simp only [Act.put])))
        refine wpList_nil (thenQ_keep (HO.held (by with_reducible (repeat (first | exact List.nil_sublist _ | apply List.Sublist.cons_cons | apply List.Sublist.cons)))) ?_)
        ((with_reducible apply wpSched_pure); exact rfl; exact rfl; (intro w'; go_simp; try with_reducible rfl); (simp only [Act.put, List.setIfInBounds_toArray, List.set_cons_succ, List.set_cons_zero]))
        refine wpSched_end ?_
        go_wp2_with fail
        go_meet
        exact ⟨b8, b', n', p', c', rfl, rfl, HO⟩
      · (first | ((with_reducible apply wpList_boxAgg _ HO rfl); exact rfl; exact rfl; exact rfl; clear HO; intro b8 w HO; (simp only [Act.put, List.setIfInBounds_toArray, List.set_cons_succ, List.set_cons_zero])) | ((with_reducible apply wpList_allocAgg _ HO rfl); exact rfl; infer_instance; exact rfl; clear HO; intro b8 w HO; (simp only [Act.put, List.setIfInBounds_toArray, List.set_cons_succ, List.set_cons_zero])) | ((with_reducible apply wpList_boxOne _ HO rfl); exact rfl; (first | (simp [Act.eval]; rfl) | exact rfl); exact rfl; exact rfl; clear HO; intro b8 w HO; (simp only [Act.put, List.setIfInBounds_toArray, List.set_cons_succ, List.set_cons_zero])) | ((with_reducible apply wpList_alloc _ HO rfl); exact rfl; infer_instance; exact rfl; exact rfl; clear HO; intro b8 w HO; (simp only [Act.put, List.setIfInBounds_toArray, List.set_cons_succ, List.set_cons_zero])))
        refine wpList_nil (thenQ_keep (HO.held (by with_reducible (repeat (first | exact List.nil_sublist _ | apply List.Sublist.cons_cons | apply List.Sublist.cons)))) ?_)
        refine wpS_fin ?_
        ((with_reducible apply wpSched_loud); exact rfl; go_wp2_with ((go_at_call 14; go_must ((with_reducible refine (acc4_any (ownRows HO (.tail _ _ _ (.tail _ _ _ (.tail _ _ _ (.head _))))) (HL.out _ HO.grown)).mono ?_); rintro e w ⟨b', n', p', c', rfl, HO1⟩; replace HO := HO.lift HO1; clear HO1; simp only [List.cons_append, List.nil_append] at HO))))
        refine thenQ_keep (HO.held (by with_reducible (repeat (first | exact List.nil_sublist _ | apply List.Sublist.cons_cons | apply List.Sublist.cons)))) ?_
        repeat ((with_reducible apply wpSched_pure); exact rfl; exact rfl; (intro w'; go_simp; try with_reducible rfl); (simp only [Act.put, List.setIfInBounds_toArray, List.set_cons_succ, List.set_cons_zero]))
        ((with_reducible apply wpSched_loud); exact rfl; ((with_reducible apply wpList_storeAll HO); exact rfl; exact rfl; exact rfl; (repeat (with_reducible (first | exact At.head _ | apply At.tail))); infer_instance; exact rfl; exact rfl; exact rfl; exact rfl; clear HO; intro w HO; (simp only [Act.put])))
        refine wpList_nil (thenQ_keep (HO.held (by with_reducible (repeat (first | exact List.nil_sublist _ | apply List.Sublist.cons_cons | apply List.Sublist.cons)))) ?_)
        ((with_reducible apply wpSched_pure); exact rfl; exact rfl; (intro w'; go_simp; try with_reducible rfl); (simp only [Act.put, List.setIfInBounds_toArray, List.set_cons_succ, List.set_cons_zero]))
        refine wpSched_end ?_
        go_wp2_with fail
        go_meet
        exact ⟨b8, b', n', p', c', rfl, rfl, HO.front3⟩
    · (first | ((with_reducible apply wpList_boxAgg _ HO rfl); exact rfl; exact rfl; exact rfl; clear HO; intro b8 w HO; (simp only [Act.put, List.setIfInBounds_toArray, List.set_cons_succ, List.set_cons_zero])) | ((with_reducible apply wpList_allocAgg _ HO rfl); exact rfl; infer_instance; exact rfl; clear HO; intro b8 w HO; (simp only [Act.put, List.setIfInBounds_toArray, List.set_cons_succ, List.set_cons_zero])) | ((with_reducible apply wpList_boxOne _ HO rfl); exact rfl; (first | (simp [Act.eval]; rfl) | exact rfl); exact rfl; exact rfl; clear HO; intro b8 w HO; (simp only [Act.put, List.setIfInBounds_toArray, List.set_cons_succ, List.set_cons_zero])) | ((with_reducible apply wpList_alloc _ HO rfl); exact rfl; infer_instance; exact rfl; exact rfl; clear HO; intro b8 w HO; (simp only [Act.put, List.setIfInBounds_toArray, List.set_cons_succ, List.set_cons_zero])))
      refine wpList_nil (thenQ_keep (HO.held (by with_reducible (repeat (first | exact List.nil_sublist _ | apply List.Sublist.cons_cons | apply List.Sublist.cons)))) ?_)
      refine wpS_fin ?_
      ((with_reducible apply wpSched_loud); exact rfl; go_wp2_with ((go_at_call 43; go_must ((with_reducible refine (paid0_any _ _).mono ?_); rintro e w ⟨rfl, hb⟩; replace HO := HO.call hb; clear hb))))
      refine thenQ_keep (HO.held (by with_reducible (repeat (first | exact List.nil_sublist _ | apply List.Sublist.cons_cons | apply List.Sublist.cons)))) ?_
      ((with_reducible apply wpSched_loud); exact rfl; go_wp2_with ((go_at_call 14; go_must ((with_reducible refine (acc4_any (ownRows HO (.tail _ _ _ (.tail _ _ _ (.tail _ _ _ (.head _))))) (HL.out _ HO.grown)).mono ?_); rintro e w ⟨b', n', p', c', rfl, HO1⟩; replace HO := HO.lift HO1; clear HO1; simp only [List.cons_append, List.nil_append] at HO))))
      refine thenQ_keep (HO.held (by with_reducible (repeat (first | exact List.nil_sublist _ | apply List.Sublist.cons_cons | apply List.Sublist.cons)))) ?_
      repeat ((with_reducible apply wpSched_pure); exact rfl; exact rfl; (intro w'; go_simp; try with_reducible rfl); (simp only [Act.put, List.setIfInBounds_toArray, List.set_cons_succ, List.set_cons_zero]))
      ((with_reducible apply wpSched_loud); exact rfl; ((with_reducible apply wpList_storeAll HO); exact rfl; exact rfl; exact rfl; (repeat (with_reducible (first | exact At.head _ | apply At.tail))); infer_instance; exact rfl; exact rfl; exact rfl; exact rfl; clear HO; intro w HO; (simp only [Act.put])))
      refine wpList_nil (thenQ_keep (HO.held (by with_reducible (repeat (first | exact List.nil_sublist _ | apply List.Sublist.cons_cons | apply List.Sublist.cons)))) ?_)
      ((with_reducible apply wpSched_pure); exact rfl; exact rfl; (intro w'; go_simp; try with_reducible rfl); (simp only [Act.put, List.setIfInBounds_toArray, List.set_cons_succ, List.set_cons_zero]))
      refine wpSched_end ?_
      go_wp2_with fail
      go_meet
      exact ⟨b8, b', n', p', c', rfl, rfl, HO.front3⟩
  clear HO
  obtain ⟨b8, b', n', p', c', rfl, rfl, HO⟩ := hcut
  have M1 := fun w (h1 : Own W w [box b8 (.cells #[.int .i64 0, .int .i64 4, .slice p' 0 c', .int .i64 0, .int .i64 0, .slice none 0 0, .int .i64 0, .int .i64 0, .slice none 0 0, .map (some b')] 32), mapE Tryd.prog 43 b' n' (allF inA2), row 45 5 (.slice p' 0 c') (([] : List RowS).map rowC), box b2 (.cells #[.int .i64 0, .int .i64 3, .slice p 1 c, .int .i64 0, .int .i64 0, .slice none 0 0, .int .i64 0, .int .i64 0, .slice none 0 0, .map (some b)] 32), mapE Tryd.prog 43 b n (allF inA1), row 45 5 (.slice p 1 c) ([rPaid].map rowC), box b1 (.cells #[.int .i64 0, .int .i64 0, .slice none 0 0, .int .i64 0, .int .i64 0, .slice none 0 0, .int .i64 0, .int .i64 0, .slice none 0 0, .map none] 32)]) => (show MapIs (.map (some b)) (allF inA1) w from .inr ⟨b, n, rfl, h1.has _ (by simp)⟩)
  have M2 := fun w (h1 : Own W w [box b8 (.cells #[.int .i64 0, .int .i64 4, .slice p' 0 c', .int .i64 0, .int .i64 0, .slice none 0 0, .int .i64 0, .int .i64 0, .slice none 0 0, .map (some b')] 32), mapE Tryd.prog 43 b' n' (allF inA2), row 45 5 (.slice p' 0 c') (([] : List RowS).map rowC), box b2 (.cells #[.int .i64 0, .int .i64 3, .slice p 1 c, .int .i64 0, .int .i64 0, .slice none 0 0, .int .i64 0, .int .i64 0, .slice none 0 0, .map (some b)] 32), mapE Tryd.prog 43 b n (allF inA1), row 45 5 (.slice p 1 c) ([rPaid].map rowC), box b1 (.cells #[.int .i64 0, .int .i64 0, .slice none 0 0, .int .i64 0, .int .i64 0, .slice none 0 0, .int .i64 0, .int .i64 0, .slice none 0 0, .map none] 32)]) => (show MapIs (.map (some b')) (allF inA2) w from .inr ⟨b', n', rfl, h1.has _ (by simp)⟩)
  have N1 : ∀ w, Own W w [box b8 (.cells #[.int .i64 0, .int .i64 4, .slice p' 0 c', .int .i64 0, .int .i64 0, .slice none 0 0, .int .i64 0, .int .i64 0, .slice none 0 0, .map (some b')] 32), mapE Tryd.prog 43 b' n' (allF inA2), row 45 5 (.slice p' 0 c') (([] : List RowS).map rowC), box b2 (.cells #[.int .i64 0, .int .i64 3, .slice p 1 c, .int .i64 0, .int .i64 0, .slice none 0 0, .int .i64 0, .int .i64 0, .slice none 0 0, .map (some b)] 32), mapE Tryd.prog 43 b n (allF inA1), row 45 5 (.slice p 1 c) ([rPaid].map rowC), box b1 (.cells #[.int .i64 0, .int .i64 0, .slice none 0 0, .int .i64 0, .int .i64 0, .slice none 0 0, .int .i64 0, .int .i64 0, .slice none 0 0, .map none] 32)] → Calls Tryd.prog 21 #[.agg #[.int .i64 0, .int .i64 3, .slice p 1 c, .int .i64 0, .int .i64 0, .slice none 0 0, .int .i64 0, .int .i64 0, .slice none 0 0, .map (some b)], .int .i64 1] w fun e w' => e = .returned (.int .i64 500) ∧ Below w.heap.size w w' := fun w h1 => by
    have := intNet_any inA1 1 (ownRows h1 (.tail _ _ _ (.tail _ _ _ (.tail _ _ _ (.tail _ _ _ (.tail _ _ _ (.head _))))))) (nilRows w) (nilRows w) inA1_ok (M1 w h1) (fun o d h2 h3 => allF_row inA1_ok h2 h3) rfl
    rwa [show netI inA1 1 = 500 by decide +kernel] at this
  have N2 : ∀ w, Own W w [box b8 (.cells #[.int .i64 0, .int .i64 4, .slice p' 0 c', .int .i64 0, .int .i64 0, .slice none 0 0, .int .i64 0, .int .i64 0, .slice none 0 0, .map (some b')] 32), mapE Tryd.prog 43 b' n' (allF inA2), row 45 5 (.slice p' 0 c') (([] : List RowS).map rowC), box b2 (.cells #[.int .i64 0, .int .i64 3, .slice p 1 c, .int .i64 0, .int .i64 0, .slice none 0 0, .int .i64 0, .int .i64 0, .slice none 0 0, .map (some b)] 32), mapE Tryd.prog 43 b n (allF inA1), row 45 5 (.slice p 1 c) ([rPaid].map rowC), box b1 (.cells #[.int .i64 0, .int .i64 0, .slice none 0 0, .int .i64 0, .int .i64 0, .slice none 0 0, .int .i64 0, .int .i64 0, .slice none 0 0, .map none] 32)] → Calls Tryd.prog 21 #[.agg #[.int .i64 0, .int .i64 4, .slice p' 0 c', .int .i64 0, .int .i64 0, .slice none 0 0, .int .i64 0, .int .i64 0, .slice none 0 0, .map (some b')], .int .i64 1] w fun e w' => e = .returned (.int .i64 0) ∧ Below w.heap.size w w' := fun w h1 => by
    have := intNet_any inA2 1 (ownRows h1 (.tail _ _ _ (.tail _ _ _ (.head _)))) (nilRows w) (nilRows w) inA2_ok (M2 w h1) (fun o d h2 h3 => allF_row inA2_ok h2 h3) rfl
    rwa [show netI inA2 1 = 0 by decide +kernel] at this
  have Z : ∀ w, Calls Tryd.prog 16 #[.agg #[.int .i64 0, .int .i64 0, .slice none 0 0, .int .i64 0, .int .i64 0, .slice none 0 0, .int .i64 0, .int .i64 0, .slice none 0 0, .map none], .int .i64 0] w fun e w' => ∃ p c, e = .returned (.agg #[.int .i64 0, .int .i64 0, .slice p 0 c]) ∧ Own w w' [row 45 5 (.slice p 0 c) []] := fun w => newest0_any zeroI (nilRows w) (nilRows w) (nilRows w) (by decide) (.inl rfl)
  have S1 : ∀ w, Own W w [box b8 (.cells #[.int .i64 0, .int .i64 4, .slice p' 0 c', .int .i64 0, .int .i64 0, .slice none 0 0, .int .i64 0, .int .i64 0, .slice none 0 0, .map (some b')] 32), mapE Tryd.prog 43 b' n' (allF inA2), row 45 5 (.slice p' 0 c') (([] : List RowS).map rowC), box b2 (.cells #[.int .i64 0, .int .i64 3, .slice p 1 c, .int .i64 0, .int .i64 0, .slice none 0 0, .int .i64 0, .int .i64 0, .slice none 0 0, .map (some b)] 32), mapE Tryd.prog 43 b n (allF inA1), row 45 5 (.slice p 1 c) ([rPaid].map rowC), box b1 (.cells #[.int .i64 0, .int .i64 0, .slice none 0 0, .int .i64 0, .int .i64 0, .slice none 0 0, .int .i64 0, .int .i64 0, .slice none 0 0, .map none] 32)] → Calls Tryd.prog 15 #[.agg #[.int .i64 0, .int .i64 3, .slice p 1 c, .int .i64 0, .int .i64 0, .slice none 0 0, .int .i64 0, .int .i64 0, .slice none 0 0, .map (some b)], .agg #[.int .i64 0, .int .i64 3, .slice p 1 c, .int .i64 0, .int .i64 0, .slice none 0 0, .int .i64 0, .int .i64 0, .slice none 0 0, .map (some b)]] w fun e w' => e = .returned (.bool true) ∧ Below w.heap.size w w' := fun w h1 => by
    have := intSame_any inA1 inA1 (ownRows h1 (.tail _ _ _ (.tail _ _ _ (.tail _ _ _ (.tail _ _ _ (.tail _ _ _ (.head _))))))) (nilRows w) (nilRows w) (ownRows h1 (.tail _ _ _ (.tail _ _ _ (.tail _ _ _ (.tail _ _ _ (.tail _ _ _ (.head _))))))) (nilRows w) (nilRows w) (.inr ⟨b, rfl⟩) (.inr ⟨b, rfl⟩)
    rwa [show sameI inA1 inA1 = true by decide +kernel] at this
  have S2 : ∀ w, Own W w [box b8 (.cells #[.int .i64 0, .int .i64 4, .slice p' 0 c', .int .i64 0, .int .i64 0, .slice none 0 0, .int .i64 0, .int .i64 0, .slice none 0 0, .map (some b')] 32), mapE Tryd.prog 43 b' n' (allF inA2), row 45 5 (.slice p' 0 c') (([] : List RowS).map rowC), box b2 (.cells #[.int .i64 0, .int .i64 3, .slice p 1 c, .int .i64 0, .int .i64 0, .slice none 0 0, .int .i64 0, .int .i64 0, .slice none 0 0, .map (some b)] 32), mapE Tryd.prog 43 b n (allF inA1), row 45 5 (.slice p 1 c) ([rPaid].map rowC), box b1 (.cells #[.int .i64 0, .int .i64 0, .slice none 0 0, .int .i64 0, .int .i64 0, .slice none 0 0, .int .i64 0, .int .i64 0, .slice none 0 0, .map none] 32)] → Calls Tryd.prog 15 #[.agg #[.int .i64 0, .int .i64 3, .slice p 1 c, .int .i64 0, .int .i64 0, .slice none 0 0, .int .i64 0, .int .i64 0, .slice none 0 0, .map (some b)], .agg #[.int .i64 0, .int .i64 4, .slice p' 0 c', .int .i64 0, .int .i64 0, .slice none 0 0, .int .i64 0, .int .i64 0, .slice none 0 0, .map (some b')]] w fun e w' => e = .returned (.bool false) ∧ Below w.heap.size w w' := fun w h1 => by
    have := intSame_any inA1 inA2 (ownRows h1 (.tail _ _ _ (.tail _ _ _ (.tail _ _ _ (.tail _ _ _ (.tail _ _ _ (.head _))))))) (nilRows w) (nilRows w) (ownRows h1 (.tail _ _ _ (.tail _ _ _ (.head _)))) (nilRows w) (nilRows w) (.inr ⟨b, rfl⟩) (.inr ⟨b', rfl⟩)
    rwa [show sameI inA1 inA2 = false by decide +kernel] at this
  clear M1 M2
  go_wp2_with (first | ((with_reducible apply wpList_fieldOne); exact rfl; exact rfl; exact Tryd.underlying28; exact rfl; exact (inferInstance : IsOne Tryd.prog 3); exact rfl; exact rfl; (simp only [Act.put, List.setIfInBounds_toArray, List.set_cons_succ, List.set_cons_zero])) | (first | go_big_skip | ((with_reducible apply wpList_loadAll HO); exact rfl; exact rfl; (repeat (with_reducible (first | exact At.head _ | apply At.tail))); infer_instance; exact rfl; exact rfl; (simp only [Act.put, List.setIfInBounds_toArray, List.set_cons_succ, List.set_cons_zero])) | ((with_reducible apply wpList_loadOne HO); exact rfl; exact rfl; (repeat (with_reducible (first | exact At.head _ | apply At.tail))); exact rfl; infer_instance; exact rfl; (simp only [Act.put, List.setIfInBounds_toArray, List.set_cons_succ, List.set_cons_zero]))) | (go_at_call 21; first | ((with_reducible refine (N1 _ HO).mono ?_); (rintro e w ⟨rfl, hb⟩; replace HO := HO.call hb; clear hb)) | ((with_reducible refine (N2 _ HO).mono ?_); (rintro e w ⟨rfl, hb⟩; replace HO := HO.call hb; clear hb))) | (go_at_call 16; go_must ((with_reducible refine (Z _).mono ?_); rintro e w ⟨p7, c7, rfl, HO1⟩; replace HO := HO.call HO1.grown; clear HO1)) | (go_at_call 15; first | ((with_reducible refine (S1 _ HO).mono ?_); (rintro e w ⟨rfl, hb⟩; replace HO := HO.call hb; clear hb)) | ((with_reducible refine (S2 _ HO).mono ?_); (rintro e w ⟨rfl, hb⟩; replace HO := HO.call hb; clear hb))))
  go_ret
  exact ⟨rfl, HO.grown⟩
end Go.Proofs.YtlfphfklcifgpaaDoor

/-
  The statement of some bytes, by walking the program's text; conditions: texts that are not too long, the table of parties as laid.
-/
import Derived.Test.YtlfphfklcifgpaaDoorRowGetR
namespace Go.Proofs.YtlfphfklcifgpaaDoor
open Go.RowKit Go.Own

def rdRow (st : Rdr) : RowS × Rdr :=
  let a := rdNum rdMost st
  let b := rdNum rdMost a.2
  let c := rdNum rdMost b.2
  let d := rdNum rdMost c.2
  let e := rdNum rdMost d.2
  (⟨a.1, b.1, c.1, d.1, e.1⟩, e.2)
def rdLoop : Nat → List RowS → Rdr → List RowS × Rdr
  | 0, A, st => (A, st)
  | n + 1, A, st => if st.2 = true ∧ A.length ≤ 400 then rdLoop n (A ++ [(rdRow st).1]) (rdRow st).2 else (A, st)
def getEnd (p q : Nat) (x : List RowS × Rdr) : Option Stmt := if x.2.2 = true ∧ x.2.1 = [] ∧ okStmt p q x.1 = true then some ((p : Int), (q : Int), x.1) else none
def getP (l : List UInt8) : Option Stmt :=
  let a := rdNum rdMost (l, true)
  let b := rdNum rdMost a.2
  let n := rdNum rdMost b.2
  getEnd a.1 b.1 (rdLoop n.1 [] n.2)
theorem rdLoop_stop {n : Nat} {A : List RowS} {st : Rdr} (h : ¬ (0 < n ∧ st.2 = true ∧ A.length ≤ 400)) : rdLoop n A st = (A, st) := by
  cases n with
  | zero => rfl
  | succ n => rw [rdLoop, if_neg (fun hh => h ⟨by omega, hh.1, hh.2⟩)]
theorem rdNum_le (st : Rdr) : (rdNum rdMost st).1 ≤ 1099511627776 := by
  unfold rdNum
  split
  · split
    · rename_i h; exact h.2
    · simp
  · simp

theorem next_at {W w : World} {L L' : List Ent} {b : Nat} {l l' : List UInt8} {ok ok' : Bool} {n : Nat} {R : Ending → World → Prop} (hr : rdNum rdMost (l, ok) = (n, (l', ok'))) (hl : l.length ≤ maxLen)
    (hat : At (box b (.cells #[.string ⟨l.toArray⟩, .bool ok] 135)) (box b (.cells #[.string ⟨l'.toArray⟩, .bool ok'] 135)) L L') (HO : Own W w L) (h : ∀ w', Own W w' L' → R (.returned (.int .i64 n)) w') :
    Calls Tryd.prog 88 #[.pointer (some ⟨b, 0, none⟩)] w R := by
  obtain ⟨M, h1, h2⟩ := hat.front
  refine (next_any l ok hl (HO.perm h1)).mono ?_
  rintro e w' ⟨rfl, h3⟩
  rw [hr] at h3 ⊢
  exact h _ (h3.perm h2.symm)

set_option maxHeartbeats 4000000 in
set_option maxRecDepth 100000 in
theorem rowsGet_any {W w : World} {L : List Ent} (l : List UInt8) (hl : l.length ≤ maxLen) (HO : Own W w L) (hL : Laid W) : Calls Tryd.prog 68 #[.string ⟨l.toArray⟩] w (StmtPost (getP l) W L) := by
  have hG : getP l = getP l := rfl
  conv at hG => rhs; unfold getP
  simp only at hG
  have m1 := rdNum_le (l, true)
  have k1 := rdNum_len rdMost (l, true)
  rcases h1 : rdNum rdMost (l, true) with ⟨n1, s1, o1⟩
  rw [h1] at hG m1 k1
  have N1 := fun (w : World) (L L' : List Ent) (b : Nat) (R : Ending → World → Prop) HO hat h => @next_at W w L L' b _ _ _ _ _ R h1 hl hat HO h
  simp only at hG m1 k1
  have m2 := rdNum_le (s1, o1)
  have k2 := rdNum_len rdMost (s1, o1)
  rcases h2 : rdNum rdMost (s1, o1) with ⟨n2, s2, o2⟩
  rw [h2] at hG m2 k2
  have N2 := fun (w : World) (L L' : List Ent) (b : Nat) (R : Ending → World → Prop) HO hat h => @next_at W w L L' b _ _ _ _ _ R h2 (by omega) hat HO h
  simp only at hG m2 k2
  have m3 := rdNum_le (s2, o2)
  have k3 := rdNum_len rdMost (s2, o2)
  rcases h3 : rdNum rdMost (s2, o2) with ⟨n3, s3, o3⟩
  rw [h3] at hG m3 k3
  have N3 := fun (w : World) (L L' : List Ent) (b : Nat) (R : Ending → World → Prop) HO hat h => @next_at W w L L' b _ _ _ _ _ R h3 (by omega) hat HO h
  simp only at hG m3 k3
  have HG := Lib.hid hG
  have hLW := fun w' (hb : Below W.heap.size W w') => hL.below hb hL.1
  clear hG h1 h2 h3 hL
  go_enter Tryd.func68, Tryd.ntmps68
  go_wp2_with (first | ((have _h : Own W _ (box _ _ :: box _ _ :: _) := HO); clear _h; ((with_reducible apply wpList_allocAgg _ HO rfl); exact rfl; infer_instance; exact rfl; clear HO; intro b2 w HO; (simp only [Act.put, List.setIfInBounds_toArray, List.set_cons_succ, List.set_cons_zero]))) | ((with_reducible apply wpList_allocAgg _ HO rfl); exact rfl; infer_instance; exact rfl; clear HO; intro b0 w HO; (simp only [Act.put, List.setIfInBounds_toArray, List.set_cons_succ, List.set_cons_zero])) | ((with_reducible apply wpList_boxAgg _ HO rfl); exact rfl; exact rfl; exact rfl; clear HO; intro b1 w HO; (simp only [Act.put, List.setIfInBounds_toArray, List.set_cons_succ, List.set_cons_zero])) | (first | go_big_skip | ((with_reducible apply wpList_loadAll HO); exact rfl; exact rfl; (repeat (with_reducible (first | exact At.head _ | apply At.tail))); infer_instance; exact rfl; exact rfl; (simp only [Act.put, List.setIfInBounds_toArray, List.set_cons_succ, List.set_cons_zero])) | ((with_reducible apply wpList_loadOne HO); exact rfl; exact rfl; (repeat (with_reducible (first | exact At.head _ | apply At.tail))); exact rfl; infer_instance; exact rfl; (simp only [Act.put, List.setIfInBounds_toArray, List.set_cons_succ, List.set_cons_zero]))) | ((with_reducible apply wpList_storeAll HO); exact rfl; exact rfl; exact rfl; (repeat (with_reducible (first | exact At.head _ | apply At.tail))); infer_instance; exact rfl; exact rfl; exact rfl; exact rfl; clear HO; intro w HO; (simp only [Act.put])) | (go_at_call 88; (with_reducible apply N1); (exact HO); (repeat (with_reducible (first | exact At.head _ | apply At.tail))); (clear HO; intro w HO)) | (go_at_call 88; (with_reducible apply N2); (exact HO); (repeat (with_reducible (first | exact At.head _ | apply At.tail))); (clear HO; intro w HO)) | (go_at_call 88; (with_reducible apply N3); (exact HO); (repeat (with_reducible (first | exact At.head _ | apply At.tail))); (clear HO; intro w HO)))
  replace HO := HO.nil 45 5
  clear N1 N2 N3
  go_loopw [6] (fun i wr => ∃ (n : Nat) (A : List RowS) (s : List UInt8) (o : Bool) (v : Value), n ≤ 1099511627776 ∧ i = .int .i64 (n : Int) ∧ s.length ≤ l.length ∧ A.length ≤ 401 ∧ rdLoop n3 [] (s3, o3) = rdLoop n A (s, o) ∧ Own W wr (row 45 5 v (A.map rowC) :: box b2 (.cells #[.int .i64 n1, .int .i64 n2, v] 28) :: box b1 (.cells #[.string ⟨s.toArray⟩, .bool o] 135) :: box b0 (.cells #[.int .i64 0, .int .i64 0, .slice none 0 0] 28) :: L)) (fun i _ => (intOf i).toNat)
  case atStart => exact ⟨n3, [], s3, o3, _, m3, rfl, by omega, by simp, rfl, HO⟩
  case round =>
    clear HO
    obtain ⟨n, A, s, o, v, hn, rfl, hsl, hA, hrd, HO⟩ := hrel
    obtain ⟨⟨p, c, rfl⟩, -⟩ := HO.rowForm (.head _)
    rw [List.length_map] at HO
    have hV := fun {w : World} {v : Value} (h : IsRows w v A) (hL : Laid w) => rowsValid_any n1 n2 h hL
    have HG3 := Lib.hid (HG.out.trans (congrArg (getEnd n1 n2) hrd))
    have HR := Lib.hid hrd
    clear hrd
    by_cases hn0 : n = 0
    · subst hn0
      have HGE := Lib.hid (HG3.out.trans (congrArg (getEnd n1 n2) (rdLoop_stop (by simp))))
      cases o
      · have HG2 := Lib.hid (HGE.out.trans (if_neg (fun h => by cases h.1)))
        go_wp2_with (first | (first | go_big_skip | ((with_reducible apply wpList_loadAll HO); exact rfl; exact rfl; (repeat (with_reducible (first | exact At.head _ | apply At.tail))); infer_instance; exact rfl; exact rfl; (simp only [Act.put, List.setIfInBounds_toArray, List.set_cons_succ, List.set_cons_zero])) | ((with_reducible apply wpList_loadOne HO); exact rfl; exact rfl; (repeat (with_reducible (first | exact At.head _ | apply At.tail))); exact rfl; infer_instance; exact rfl; (simp only [Act.put, List.setIfInBounds_toArray, List.set_cons_succ, List.set_cons_zero]))) | ((with_reducible apply wpList_storeAll HO); exact rfl; exact rfl; exact rfl; (repeat (with_reducible (first | exact At.head _ | apply At.tail))); infer_instance; exact rfl; exact rfl; exact rfl; exact rfl; clear HO; intro w HO; (simp only [Act.put])) | (go_at_call 44; go_must ((with_reducible refine (hV (ownRows HO (.head _)) (hLW _ HO.grown)).mono ?_); rintro e w ⟨rfl, hb⟩; replace HO := HO.call hb; clear hb)))
        refine bodyPost_ret (results_box HO rfl rfl (by (repeat (with_reducible (first | exact At.head _ | apply At.tail)))) inferInstance rfl rfl) rfl ?_
        rw [HG2.out]
        exact ⟨rfl, HO.tail.tail.tail.tail⟩
      · by_cases hs : s = []
        · subst hs
          cases hok : okStmt n1 n2 A
          · rw [hok] at hV
            have HG2 := Lib.hid (HGE.out.trans (if_neg (fun h => by rw [hok] at h; cases h.2.2)))
            clear hok
            go_wp2_with (first | (first | go_big_skip | ((with_reducible apply wpList_loadAll HO); exact rfl; exact rfl; (repeat (with_reducible (first | exact At.head _ | apply At.tail))); infer_instance; exact rfl; exact rfl; (simp only [Act.put, List.setIfInBounds_toArray, List.set_cons_succ, List.set_cons_zero])) | ((with_reducible apply wpList_loadOne HO); exact rfl; exact rfl; (repeat (with_reducible (first | exact At.head _ | apply At.tail))); exact rfl; infer_instance; exact rfl; (simp only [Act.put, List.setIfInBounds_toArray, List.set_cons_succ, List.set_cons_zero]))) | ((with_reducible apply wpList_storeAll HO); exact rfl; exact rfl; exact rfl; (repeat (with_reducible (first | exact At.head _ | apply At.tail))); infer_instance; exact rfl; exact rfl; exact rfl; exact rfl; clear HO; intro w HO; (simp only [Act.put])) | (go_at_call 44; go_must ((with_reducible refine (hV (ownRows HO (.head _)) (hLW _ HO.grown)).mono ?_); rintro e w ⟨rfl, hb⟩; replace HO := HO.call hb; clear hb)))
            refine bodyPost_ret (results_box HO rfl rfl (by (repeat (with_reducible (first | exact At.head _ | apply At.tail)))) inferInstance rfl rfl) rfl ?_
            rw [HG2.out]
            exact ⟨rfl, HO.tail.tail.tail.tail⟩
          · rw [hok] at hV
            have HG2 := Lib.hid (HGE.out.trans (if_pos ⟨rfl, rfl, hok⟩))
            clear hok
            go_wp2_with (first | (first | go_big_skip | ((with_reducible apply wpList_loadAll HO); exact rfl; exact rfl; (repeat (with_reducible (first | exact At.head _ | apply At.tail))); infer_instance; exact rfl; exact rfl; (simp only [Act.put, List.setIfInBounds_toArray, List.set_cons_succ, List.set_cons_zero])) | ((with_reducible apply wpList_loadOne HO); exact rfl; exact rfl; (repeat (with_reducible (first | exact At.head _ | apply At.tail))); exact rfl; infer_instance; exact rfl; (simp only [Act.put, List.setIfInBounds_toArray, List.set_cons_succ, List.set_cons_zero]))) | ((with_reducible apply wpList_storeAll HO); exact rfl; exact rfl; exact rfl; (repeat (with_reducible (first | exact At.head _ | apply At.tail))); infer_instance; exact rfl; exact rfl; exact rfl; exact rfl; clear HO; intro w HO; (simp only [Act.put])) | (go_at_call 44; go_must ((with_reducible refine (hV (ownRows HO (.head _)) (hLW _ HO.grown)).mono ?_); rintro e w ⟨rfl, hb⟩; replace HO := HO.call hb; clear hb)))
            refine bodyPost_ret (results_box HO rfl rfl (by (repeat (with_reducible (first | exact At.head _ | apply At.tail)))) inferInstance rfl rfl) rfl ?_
            rw [HG2.out]
            exact ⟨_, rfl, HO.sub (by exact .cons_cons _ (.cons _ (.cons _ (.cons _ (List.Sublist.refl _)))))⟩
        · have hne : s.isEmpty = false := by cases s <;> simp_all
          have hne2 : (s == []) = false := by cases s <;> simp_all
          have HG2 := Lib.hid (HGE.out.trans (if_neg (fun h => hs h.2.1)))
          clear hs
          go_wp2_with (first | (first | go_big_skip | ((with_reducible apply wpList_loadAll HO); exact rfl; exact rfl; (repeat (with_reducible (first | exact At.head _ | apply At.tail))); infer_instance; exact rfl; exact rfl; (simp only [Act.put, List.setIfInBounds_toArray, List.set_cons_succ, List.set_cons_zero])) | ((with_reducible apply wpList_loadOne HO); exact rfl; exact rfl; (repeat (with_reducible (first | exact At.head _ | apply At.tail))); exact rfl; infer_instance; exact rfl; (simp only [Act.put, List.setIfInBounds_toArray, List.set_cons_succ, List.set_cons_zero]))) | ((with_reducible apply wpList_storeAll HO); exact rfl; exact rfl; exact rfl; (repeat (with_reducible (first | exact At.head _ | apply At.tail))); infer_instance; exact rfl; exact rfl; exact rfl; exact rfl; clear HO; intro w HO; (simp only [Act.put])) | (go_at_call 44; go_must ((with_reducible refine (hV (ownRows HO (.head _)) (hLW _ HO.grown)).mono ?_); rintro e w ⟨rfl, hb⟩; replace HO := HO.call hb; clear hb)))
          refine bodyPost_ret (results_box HO rfl rfl (by (repeat (with_reducible (first | exact At.head _ | apply At.tail)))) inferInstance rfl rfl) rfl ?_
          rw [HG2.out]
          exact ⟨rfl, HO.tail.tail.tail.tail⟩
    · have hn1 : (0 : Int) < (n : Int) := by omega
      cases o
      · have HGE := Lib.hid (HG3.out.trans (congrArg (getEnd n1 n2) (rdLoop_stop (by simp))))
        have HG2 := Lib.hid (HGE.out.trans (if_neg (fun h => by cases h.1)))
        go_wp2_with (first | (first | go_big_skip | ((with_reducible apply wpList_loadAll HO); exact rfl; exact rfl; (repeat (with_reducible (first | exact At.head _ | apply At.tail))); infer_instance; exact rfl; exact rfl; (simp only [Act.put, List.setIfInBounds_toArray, List.set_cons_succ, List.set_cons_zero])) | ((with_reducible apply wpList_loadOne HO); exact rfl; exact rfl; (repeat (with_reducible (first | exact At.head _ | apply At.tail))); exact rfl; infer_instance; exact rfl; (simp only [Act.put, List.setIfInBounds_toArray, List.set_cons_succ, List.set_cons_zero]))) | ((with_reducible apply wpList_storeAll HO); exact rfl; exact rfl; exact rfl; (repeat (with_reducible (first | exact At.head _ | apply At.tail))); infer_instance; exact rfl; exact rfl; exact rfl; exact rfl; clear HO; intro w HO; (simp only [Act.put])) | (go_at_call 44; go_must ((with_reducible refine (hV (ownRows HO (.head _)) (hLW _ HO.grown)).mono ?_); rintro e w ⟨rfl, hb⟩; replace HO := HO.call hb; clear hb)))
        refine bodyPost_ret (results_box HO rfl rfl (by (repeat (with_reducible (first | exact At.head _ | apply At.tail)))) inferInstance rfl rfl) rfl ?_
        rw [HG2.out]
        exact ⟨rfl, HO.tail.tail.tail.tail⟩
      · by_cases hA4 : A.length ≤ 400
        · obtain ⟨n', rfl⟩ : ∃ n', n = n' + 1 := ⟨n - 1, by omega⟩
          have hA6 : decide ((A.length : Int) ≤ 400) = true := by simp; omega
          have hL1 : A.length + 1 ≤ 1000000 := by omega
          have hL2 : (A.map rowC).length + 1 ≤ 1000000 := by simp; omega
          have m4 := rdNum_le (s, true)
          have k4 := rdNum_len rdMost (s, true)
          rcases h4 : rdNum rdMost (s, true) with ⟨a, s4, o4⟩
          rw [h4] at m4 k4
          simp only at m4 k4
          have N4 := fun (w : World) (L L' : List Ent) (b : Nat) (R : Ending → World → Prop) HO hat h => @next_at W w L L' b _ _ _ _ _ R h4 (by omega) hat HO h
          have m5 := rdNum_le (s4, o4)
          have k5 := rdNum_len rdMost (s4, o4)
          rcases h5 : rdNum rdMost (s4, o4) with ⟨b, s5, o5⟩
          rw [h5] at m5 k5
          simp only at m5 k5
          have N5 := fun (w : World) (L L' : List Ent) (b : Nat) (R : Ending → World → Prop) HO hat h => @next_at W w L L' b _ _ _ _ _ R h5 (by omega) hat HO h
          have m6 := rdNum_le (s5, o5)
          have k6 := rdNum_len rdMost (s5, o5)
          rcases h6 : rdNum rdMost (s5, o5) with ⟨cc, s6, o6⟩
          rw [h6] at m6 k6
          simp only at m6 k6
          have N6 := fun (w : World) (L L' : List Ent) (b : Nat) (R : Ending → World → Prop) HO hat h => @next_at W w L L' b _ _ _ _ _ R h6 (by omega) hat HO h
          have m7 := rdNum_le (s6, o6)
          have k7 := rdNum_len rdMost (s6, o6)
          rcases h7 : rdNum rdMost (s6, o6) with ⟨d, s7, o7⟩
          rw [h7] at m7 k7
          simp only at m7 k7
          have N7 := fun (w : World) (L L' : List Ent) (b : Nat) (R : Ending → World → Prop) HO hat h => @next_at W w L L' b _ _ _ _ _ R h7 (by omega) hat HO h
          have m8 := rdNum_le (s7, o7)
          have k8 := rdNum_len rdMost (s7, o7)
          rcases h8 : rdNum rdMost (s7, o7) with ⟨e, s8, o8⟩
          rw [h8] at m8 k8
          simp only at m8 k8
          have N8 := fun (w : World) (L L' : List Ent) (b : Nat) (R : Ending → World → Prop) HO hat h => @next_at W w L L' b _ _ _ _ _ R h8 (by omega) hat HO h
          have HRD := Lib.hid (show rdLoop (n' + 1) A (s, true) = rdLoop n' (A ++ [⟨a, b, cc, d, e⟩]) (s8, o8) by rw [rdLoop, if_pos ⟨rfl, hA4⟩]; simp only [rdRow, h4, h5, h6, h7, h8])
          have HR2 := Lib.hid (HR.out.trans HRD.out)
          clear h4 h5 h6 h7 h8
          go_wp2_with (first | (first | go_big_skip | ((with_reducible apply wpList_loadAll HO); exact rfl; exact rfl; (repeat (with_reducible (first | exact At.head _ | apply At.tail))); infer_instance; exact rfl; exact rfl; (simp only [Act.put, List.setIfInBounds_toArray, List.set_cons_succ, List.set_cons_zero])) | ((with_reducible apply wpList_loadOne HO); exact rfl; exact rfl; (repeat (with_reducible (first | exact At.head _ | apply At.tail))); exact rfl; infer_instance; exact rfl; (simp only [Act.put, List.setIfInBounds_toArray, List.set_cons_succ, List.set_cons_zero]))) | ((with_reducible apply wpList_storeAll HO); exact rfl; exact rfl; exact rfl; (repeat (with_reducible (first | exact At.head _ | apply At.tail))); infer_instance; exact rfl; exact rfl; exact rfl; exact rfl; clear HO; intro w HO; (simp only [Act.put])) | ((with_reducible apply wpList_allocAgg _ HO rfl); exact rfl; infer_instance; exact rfl; clear HO; intro b3 w HO; (simp only [Act.put, List.setIfInBounds_toArray, List.set_cons_succ, List.set_cons_zero])) | (go_at_call 88; (with_reducible apply N4); (exact HO); (repeat (with_reducible (first | exact At.head _ | apply At.tail))); (clear HO; intro w HO)) | (go_at_call 88; (with_reducible apply N5); (exact HO); (repeat (with_reducible (first | exact At.head _ | apply At.tail))); (clear HO; intro w HO)))
          refine region_sched2 ([box b3 (.cells #[.int .i64 a, .int .i64 b] 43), box b2 (.cells #[.int .i64 n1, .int .i64 n2, .slice p A.length c] 28)]) [(0, true), (1, true), (2, true), (3, true), (5, true), (7, true), (4, false), (6, false), (8, false), (9, true), (10, false), (11, false), (12, true), (13, false)] HO (by with_reducible (repeat (first | exact List.nil_sublist _ | apply List.Sublist.cons_cons | apply List.Sublist.cons))) (by kernel_rfl) (by kernel_rfl) ?_
          clear HO
          intro w HO
          repeat (first | ((with_reducible apply wpSched_loadAll); exact rfl; exact rfl; exact rfl; (repeat (with_reducible (first | exact At.head _ | apply At.tail))); infer_instance; exact rfl; exact rfl; (simp only [Act.put, List.setIfInBounds_toArray, List.set_cons_succ, List.set_cons_zero])) | ((with_reducible apply wpSched_loadOne); exact rfl; exact rfl; exact rfl; (repeat (with_reducible (first | exact At.head _ | apply At.tail))); exact rfl; infer_instance; exact rfl; (simp only [Act.put, List.setIfInBounds_toArray, List.set_cons_succ, List.set_cons_zero])) | ((with_reducible apply wpSched_pure); exact rfl; exact rfl; (intro w'; go_simp; try with_reducible rfl); (simp only [Act.put, List.setIfInBounds_toArray, List.set_cons_succ, List.set_cons_zero])))
          ((with_reducible apply wpSched_loud); exact rfl; go_wp2_with ((go_at_call 88; (with_reducible apply N6); (exact HO); (repeat (with_reducible (first | exact At.head _ | apply At.tail))); (clear HO; intro w HO))))
          refine thenQ_keep (HO.held (by with_reducible (repeat (first | exact List.nil_sublist _ | apply List.Sublist.cons_cons | apply List.Sublist.cons)))) ?_
          ((with_reducible apply wpSched_loud); exact rfl; go_wp2_with ((go_at_call 88; (with_reducible apply N7); (exact HO); (repeat (with_reducible (first | exact At.head _ | apply At.tail))); (clear HO; intro w HO))))
          refine thenQ_keep (HO.held (by with_reducible (repeat (first | exact List.nil_sublist _ | apply List.Sublist.cons_cons | apply List.Sublist.cons)))) ?_
          ((with_reducible apply wpSched_loud); exact rfl; go_wp2_with ((go_at_call 88; (with_reducible apply N8); (exact HO); (repeat (with_reducible (first | exact At.head _ | apply At.tail))); (clear HO; intro w HO))))
          refine thenQ_keep (HO.held (by with_reducible (repeat (first | exact List.nil_sublist _ | apply List.Sublist.cons_cons | apply List.Sublist.cons)))) ?_
          ((with_reducible apply wpSched_pure); exact rfl; exact rfl; (intro w'; go_simp; try with_reducible rfl); (simp only [Act.put, List.setIfInBounds_toArray, List.set_cons_succ, List.set_cons_zero]))
          ((with_reducible apply wpSched_loud); exact rfl; (first | ((with_reducible apply wpList_lit1 HO); exact rfl; infer_instance; infer_instance; exact rfl; exact rfl; exact (by decide); exact rfl; clear HO; intro b4 w HO; (simp only [Act.put, List.setIfInBounds_toArray, List.set_cons_succ, List.set_cons_zero])) | ((with_reducible apply wpList_lit1c HO); exact rfl; infer_instance; infer_instance; (first | (simp [Act.eval]; rfl) | exact rfl); exact rfl; exact rfl; clear HO; intro b4 w HO; (simp only [Act.put, List.setIfInBounds_toArray, List.set_cons_succ, List.set_cons_zero]))))
          refine wpList_nil (thenQ_keep (HO.held (by with_reducible (repeat (first | exact List.nil_sublist _ | apply List.Sublist.cons_cons | apply List.Sublist.cons)))) ?_)
          ((with_reducible apply wpSched_loud); exact rfl; ((with_reducible apply wpList_push1 HO); exact rfl; infer_instance; infer_instance; (first | (simp [Act.eval]; rfl) | exact rfl); exact rfl; intro _; (repeat (with_reducible (first | exact At.head _ | apply At.tail))); exact rfl; exact rfl; (first | omega | (simp; omega)); decide; exact rfl; clear HO; intro v2 w HO hv2; (simp only [Act.put, List.setIfInBounds_toArray, List.set_cons_succ, List.set_cons_zero])))
          obtain ⟨p3, nn, c3, rfl⟩ := hv2
          refine wpList_nil (thenQ_keep (HO.held (by with_reducible (repeat (first | exact List.nil_sublist _ | apply List.Sublist.cons_cons | apply List.Sublist.cons)))) ?_)
          ((with_reducible apply wpSched_pure); exact rfl; exact rfl; (intro w'; go_simp; try with_reducible rfl); (simp only [Act.put, List.setIfInBounds_toArray, List.set_cons_succ, List.set_cons_zero]))
          ((with_reducible apply wpSched_loud); exact rfl; ((with_reducible apply wpList_storeOne HO); exact rfl; exact rfl; (first | (simp [Act.eval]; rfl) | exact rfl); exact rfl; (repeat (with_reducible (first | exact At.head _ | apply At.tail))); infer_instance; exact (by simp); (simp only [List.set_cons_succ, List.set_cons_zero]; rfl); exact rfl; clear HO; intro w HO; (simp only [Act.put])))
          refine wpList_nil (thenQ_free (by kernel_rfl) ?_)
          refine wpSched_end ?_
          have e1 : IntKind.i64.wrap (n' : Int) = n' := wrap_n _ (by omega)
          go_wp2_with fail
          go_roundw
          case rel => exact ⟨n', A ++ [⟨a, b, cc, d, e⟩], s8, o8, _, by omega, by go_num, by omega, by simp; omega, HR2.out, by rw [List.map_append]; exact HO.tail⟩
          case measure => simp [intOf] <;> omega
        · have hA5 : decide ((A.length : Int) ≤ 400) = false := by simp; omega
          have HGE := Lib.hid (HG3.out.trans (congrArg (getEnd n1 n2) (rdLoop_stop (by omega))))
          by_cases hs : s = []
          · subst hs
            cases hok : okStmt n1 n2 A
            · rw [hok] at hV
              have HG2 := Lib.hid (HGE.out.trans (if_neg (fun h => by rw [hok] at h; cases h.2.2)))
              clear hok
              go_wp2_with (first | (first | go_big_skip | ((with_reducible apply wpList_loadAll HO); exact rfl; exact rfl; (repeat (with_reducible (first | exact At.head _ | apply At.tail))); infer_instance; exact rfl; exact rfl; (simp only [Act.put, List.setIfInBounds_toArray, List.set_cons_succ, List.set_cons_zero])) | ((with_reducible apply wpList_loadOne HO); exact rfl; exact rfl; (repeat (with_reducible (first | exact At.head _ | apply At.tail))); exact rfl; infer_instance; exact rfl; (simp only [Act.put, List.setIfInBounds_toArray, List.set_cons_succ, List.set_cons_zero]))) | ((with_reducible apply wpList_storeAll HO); exact rfl; exact rfl; exact rfl; (repeat (with_reducible (first | exact At.head _ | apply At.tail))); infer_instance; exact rfl; exact rfl; exact rfl; exact rfl; clear HO; intro w HO; (simp only [Act.put])) | (go_at_call 44; go_must ((with_reducible refine (hV (ownRows HO (.head _)) (hLW _ HO.grown)).mono ?_); rintro e w ⟨rfl, hb⟩; replace HO := HO.call hb; clear hb)))
              refine bodyPost_ret (results_box HO rfl rfl (by (repeat (with_reducible (first | exact At.head _ | apply At.tail)))) inferInstance rfl rfl) rfl ?_
              rw [HG2.out]
              exact ⟨rfl, HO.tail.tail.tail.tail⟩
            · rw [hok] at hV
              have HG2 := Lib.hid (HGE.out.trans (if_pos ⟨rfl, rfl, hok⟩))
              clear hok
              go_wp2_with (first | (first | go_big_skip | ((with_reducible apply wpList_loadAll HO); exact rfl; exact rfl; (repeat (with_reducible (first | exact At.head _ | apply At.tail))); infer_instance; exact rfl; exact rfl; (simp only [Act.put, List.setIfInBounds_toArray, List.set_cons_succ, List.set_cons_zero])) | ((with_reducible apply wpList_loadOne HO); exact rfl; exact rfl; (repeat (with_reducible (first | exact At.head _ | apply At.tail))); exact rfl; infer_instance; exact rfl; (simp only [Act.put, List.setIfInBounds_toArray, List.set_cons_succ, List.set_cons_zero]))) | ((with_reducible apply wpList_storeAll HO); exact rfl; exact rfl; exact rfl; (repeat (with_reducible (first | exact At.head _ | apply At.tail))); infer_instance; exact rfl; exact rfl; exact rfl; exact rfl; clear HO; intro w HO; (simp only [Act.put])) | (go_at_call 44; go_must ((with_reducible refine (hV (ownRows HO (.head _)) (hLW _ HO.grown)).mono ?_); rintro e w ⟨rfl, hb⟩; replace HO := HO.call hb; clear hb)))
              refine bodyPost_ret (results_box HO rfl rfl (by (repeat (with_reducible (first | exact At.head _ | apply At.tail)))) inferInstance rfl rfl) rfl ?_
              rw [HG2.out]
              exact ⟨_, rfl, HO.sub (by exact .cons_cons _ (.cons _ (.cons _ (.cons _ (List.Sublist.refl _)))))⟩
          · have hne : s.isEmpty = false := by cases s <;> simp_all
            have hne2 : (s == []) = false := by cases s <;> simp_all
            have HG2 := Lib.hid (HGE.out.trans (if_neg (fun h => hs h.2.1)))
            clear hs
            go_wp2_with (first | (first | go_big_skip | ((with_reducible apply wpList_loadAll HO); exact rfl; exact rfl; (repeat (with_reducible (first | exact At.head _ | apply At.tail))); infer_instance; exact rfl; exact rfl; (simp only [Act.put, List.setIfInBounds_toArray, List.set_cons_succ, List.set_cons_zero])) | ((with_reducible apply wpList_loadOne HO); exact rfl; exact rfl; (repeat (with_reducible (first | exact At.head _ | apply At.tail))); exact rfl; infer_instance; exact rfl; (simp only [Act.put, List.setIfInBounds_toArray, List.set_cons_succ, List.set_cons_zero]))) | ((with_reducible apply wpList_storeAll HO); exact rfl; exact rfl; exact rfl; (repeat (with_reducible (first | exact At.head _ | apply At.tail))); infer_instance; exact rfl; exact rfl; exact rfl; exact rfl; clear HO; intro w HO; (simp only [Act.put])) | (go_at_call 44; go_must ((with_reducible refine (hV (ownRows HO (.head _)) (hLW _ HO.grown)).mono ?_); rintro e w ⟨rfl, hb⟩; replace HO := HO.call hb; clear hb)))
            refine bodyPost_ret (results_box HO rfl rfl (by (repeat (with_reducible (first | exact At.head _ | apply At.tail)))) inferInstance rfl rfl) rfl ?_
            rw [HG2.out]
            exact ⟨rfl, HO.tail.tail.tail.tail⟩
end Go.Proofs.YtlfphfklcifgpaaDoor

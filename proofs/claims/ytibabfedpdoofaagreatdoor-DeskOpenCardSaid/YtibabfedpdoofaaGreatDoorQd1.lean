/-
  The plain law of DeskTwo and DeskOpen: what all written items come to, what is left; conditions: none. No program in sight.
-/
import Derived.Test.YtibabfedpdoofaaGreatDoorQa1
import Derived.Test.YtibabfedpdoofaaGreatDoorQa10
import Derived.Test.YtibabfedpdoofaaGreatDoorQc1
namespace Go.Proofs.YtibabfedpdoofaaGreatDoor
open Go.RowKit Go.Own Go.Maps

theorem wK_list (n : Int) : (wK n).data.toList = 119 :: Lib.itoa n := by simp [wK]
theorem wK_inj {n m : Int} (h1 : 0 ≤ n) (h2 : 0 ≤ m) (h : wK n = wK m) : n = m := by
  have h3 := bytes_ext h
  rw [wK_list, wK_list, itoa_nat h1, itoa_nat h2, List.cons.injEq] at h3
  have := dec_inj h3.2
  omega
def wItem (o : Int) (x : ItemS) : Int := if x.o = o ∧ x.s = 2 then x.a else 0
def wsum (o : Int) : List ItemS → Int
  | [] => 0
  | x :: l => wItem o x + wsum o l
theorem wsum_app (o : Int) : ∀ l m : List ItemS, wsum o (l ++ m) = wsum o l + wsum o m
  | [], m => by simp [wsum]
  | x :: l, m => by simp only [List.cons_append, wsum, wsum_app o l m]; omega
theorem wsum_set (o : Int) : ∀ (l : List ItemS) (j : Nat) (hj : j < l.length) (y : ItemS), wsum o (l.set j y) = wsum o l - wItem o l[j] + wItem o y
  | x :: l, 0, _, y => by simp only [List.set_cons_zero, wsum, List.getElem_cons_zero]; omega
  | x :: l, j + 1, hj, y => by
    have := wsum_set o l j (by simpa using hj) y
    simp only [List.set_cons_succ, wsum, List.getElem_cons_succ, this]
    omega
theorem leftFold_writ (o : Int) : ∀ (I : List ItemS) (n : Int), (I.foldl (leftStep o writS) (n, true)).2 = true → (I.foldl (leftStep o writS) (n, true)).1 = n - wsum o I
  | [], n, _ => by simp [wsum]
  | x :: I, n, h => by
    rw [List.foldl_cons] at h ⊢
    unfold wsum wItem
    by_cases h1 : x.o = o
    · by_cases h2 : x.s = 2
      · have e : leftStep o writS (n, true) x = subI n x.a := by
          unfold leftStep
          rw [if_pos rfl, if_pos h1, if_pos (by unfold writS; rw [h2]; rfl)]
        rw [e] at h ⊢
        by_cases hs : inI (n - x.a) = true
        · rw [show subI n x.a = (n - x.a, true) by unfold subI; rw [if_pos hs]] at h ⊢
          rw [leftFold_writ o I _ h, if_pos ⟨h1, h2⟩]
          omega
        · rw [show subI n x.a = (0, false) by unfold subI; rw [if_neg hs], leftFold_stop _ _ _ _ rfl] at h
          cases h
      · have e : leftStep o writS (n, true) x = (n, true) := by
          unfold leftStep
          rw [if_pos rfl, if_pos h1, if_neg (by unfold writS; simpa using h2)]
        rw [e] at h ⊢
        rw [leftFold_writ o I _ h, if_neg (fun hh => h2 hh.2)]
        omega
    · have e : leftStep o writS (n, true) x = (n, true) := by
        unfold leftStep
        rw [if_pos rfl, if_neg h1]
      rw [e] at h ⊢
      rw [leftFold_writ o I _ h, if_neg (fun hh => h1 hh.1)]
      omega
theorem leftF_writ {I : List ItemS} {n o : Int} (h : (leftF I n o writS).2 = true) : (leftF I n o writS).1 = n - wsum o I := leftFold_writ o I n h

/-- What a desk comes to. -/
structure DkOk (D : DkS) : Prop where
  bk : Bk D.P
  len : D.I.length ≤ 100
  it : ∀ x ∈ D.I, 1 ≤ x.o ∧ x.o ≤ 60 ∧ inI x.a = true ∧ x.b.length ≤ 16 ∧ inI x.s = true
  ids : ∀ p ∈ D.P, ∃ (j : Nat) (hj : j < D.I.length), p.id = wK ((j : Int) + 1) ∧ D.I[j].s = 2
  b4 : ∀ o, o ≠ 0 → bal D.P 4 o = wsum o D.I
  b1 : ∀ o, o ≠ 0 → bal D.P 1 o = -wsum o D.I
theorem dkOk_new : DkOk ⟨[], []⟩ := ⟨.nil, by decide, by simp, by simp, fun _ _ => rfl, fun _ _ => rfl⟩
theorem wsum_one (o : Int) (x : ItemS) : wsum o [x] = wItem o x := by simp [wsum]
theorem prop_zero {S : CoS} {I : List ItemS} {x : ItemS} (h : propE S I x = 0) : whoB x.b = true ∧ (∃ y, ordAt S.L x.o = some y) ∧ (openD S I x.o).2 = true ∧ withinB x.a (openD S I x.o).1 = true ∧ I.length < 100 := by
  unfold propE at h
  split at h
  · rename_i h1
    split at h
    · cases h
    · rename_i y hy
      split at h
      · cases h
      · split at h
        · rename_i h2
          split at h
          · rename_i h3
            exact ⟨h1, ⟨y, hy⟩, h2.1, h2.2, h3⟩
          · cases h
        · cases h
  · cases h
theorem propI_ok {S : CoS} {D : DkS} {x : ItemS} (h : DkOk D) (hl : S.L.length ≤ 60) (hx : inI x.a = true) : DkOk ⟨propI S D.I x, D.P⟩ := by
  unfold propI
  split
  · rename_i hz
    obtain ⟨h1, ⟨y, hy⟩, _, _, h5⟩ := prop_zero hz
    obtain ⟨j, hj, ho, _⟩ := ordAt_some hy
    unfold whoB at h1
    simp only [decide_eq_true_eq] at h1
    have hw : ∀ o, wsum o (D.I ++ [{ x with s := 1 }]) = wsum o D.I := fun o => by
      rw [wsum_app, wsum_one, wItem, if_neg (by simp), Int.add_zero]
    refine ⟨h.bk, by simp; omega, fun z hz => ?_, fun p hp => ?_, fun o ho => by rw [hw]; exact h.b4 o ho, fun o ho => by rw [hw]; exact h.b1 o ho⟩
    · rcases List.mem_append.1 hz with hz | hz
      · exact h.it z hz
      · obtain rfl := List.mem_singleton.1 hz
        exact ⟨by simp only; omega, by simp only; omega, hx, h1.2, rfl⟩
    · obtain ⟨k, hk, e1, e2⟩ := h.ids p hp
      refine ⟨k, by simp only [List.length_append]; omega, e1, ?_⟩
      simp only
      rw [List.getElem_append_left hk]
      exact e2
  · exact h
theorem refuI_ok {D : DkS} {b : List UInt8} {n : Int} (h : DkOk D) : DkOk ⟨refuI D.I b n, D.P⟩ := by
  unfold refuI
  split
  · rename_i hz
    obtain ⟨_, j, hj, rfl, hs, hx⟩ := pend_zero hz
    rw [hx]
    simp only
    unfold setI
    rw [show ((j : Int) + 1 - 1).toNat = j by omega]
    have hw : ∀ o, wsum o (D.I.set j { D.I[j] with s := 3 }) = wsum o D.I := fun o => by
      rw [wsum_set o _ j hj, wItem, if_neg (by rw [hs]; simp), wItem, if_neg (by simp)]
      omega
    refine ⟨h.bk, by simpa using h.len, fun z hz => ?_, fun p hp => ?_, fun o ho => by rw [hw]; exact h.b4 o ho, fun o ho => by rw [hw]; exact h.b1 o ho⟩
    · rcases List.mem_or_eq_of_mem_set hz with hz | rfl
      · exact h.it z hz
      · obtain ⟨a1, a2, a3, a4, _⟩ := h.it _ (List.getElem_mem hj)
        exact ⟨a1, a2, a3, a4, rfl⟩
    · obtain ⟨k, hk, e1, e2⟩ := h.ids p hp
      have hne : j ≠ k := by
        rintro rfl
        rw [hs] at e2
        cases e2
      refine ⟨k, by simpa using hk, e1, ?_⟩
      simp only
      rw [List.getElem_set_ne hne]
      exact e2
  · exact h
theorem wPst_delta (n : Int) (x : ItemS) (o : Int) (ho : o ≠ 0) : delta (wPst n x) 4 o = (if x.o = o then x.a else 0) ∧ delta (wPst n x) 1 o = -(if x.o = o then x.a else 0) := by
  unfold wPst
  by_cases h1 : x.o = o
  · by_cases h2 : x.a < 0
    · rw [if_pos h2, if_pos h1]
      simp [delta, h1]
    · rw [if_neg h2, if_pos h1]
      simp [delta, h1]
  · by_cases h2 : x.a < 0
    · rw [if_pos h2, if_neg h1]
      simp [delta, h1, ho]
    · rw [if_neg h2, if_neg h1]
      simp [delta, h1, ho]
/-- What an approval does. -/
theorem appr_zero {S : CoS} {D : DkS} {b : List UInt8} {n : Int} (h : DkOk D) (hS : Bk S.P) (hz : apprE S D b n = 0) : ∃ (j : Nat) (hj : j < D.I.length), n = (j : Int) + 1 ∧ D.I[j].s = 1 ∧ itemAt D.I n = some D.I[j] ∧ D.I[j].b ≠ b ∧
    apprD S D b n = ⟨D.I.set j { D.I[j] with s := 2 }, D.P ++ [wPst n D.I[j]]⟩ ∧ DkOk (apprD S D b n) ∧
    inI (bal S.P 1 D.I[j].o - wsum D.I[j].o D.I) = true ∧ inI (wsum D.I[j].o D.I + D.I[j].a) = true ∧ withinB D.I[j].a (bal S.P 1 D.I[j].o - wsum D.I[j].o D.I) = true := by
  have hz0 := hz
  unfold apprE at hz
  split at hz
  rotate_left
  · rename_i hp; exact absurd hz hp
  rename_i hp
  obtain ⟨_, j, hj, rfl, hs, hx⟩ := pend_zero hp
  rw [hx] at hz
  simp only at hz
  unfold apprX at hz
  split at hz
  · cases hz
  rename_i hb
  split at hz
  rotate_left
  · cases hz
  rename_i hw
  obtain ⟨hw1, hw2⟩ := hw
  split at hz
  · cases hz
  rename_i hmin
  have hl := leftF_writ hw1
  rw [hl] at hw2
  have hid : (wPst ((j : Int) + 1) D.I[j]).id = wK ((j : Int) + 1) := by unfold wPst; split <;> rfl
  have hfp : findP D.P (wPst ((j : Int) + 1) D.I[j]).id = none := by
    unfold findP
    rw [List.find?_eq_none]
    intro q hq
    obtain ⟨k, hk, e1, e2⟩ := h.ids q hq
    rw [decide_eq_true_eq, hid, e1]
    intro e
    have := wK_inj (by omega) (by omega) e
    obtain rfl : k = j := by omega
    rw [hs] at e2
    cases e2
  have hpe := hz
  unfold postE at hz
  rw [hfp] at hz
  split at hz
  rotate_left
  · cases hz
  rename_i hm
  simp only at hz
  split at hz
  rotate_left
  · cases hz
  rename_i hf
  have hpl : postL D.P (wPst ((j : Int) + 1) D.I[j]) = D.P ++ [wPst ((j : Int) + 1) D.I[j]] := by
    unfold postL
    rw [if_pos (by rw [hm, hfp, hf]; rfl)]
  have hin := h.it _ (List.getElem_mem hj)
  have hO : D.I[j].o ≠ 0 := by omega
  have hD : apprD S D b ((j : Int) + 1) = ⟨D.I.set j { D.I[j] with s := 2 }, D.P ++ [wPst ((j : Int) + 1) D.I[j]]⟩ := by
    unfold apprD
    rw [if_pos hz0, hx]
    simp only
    unfold setI
    rw [hpl, show ((j : Int) + 1 - 1).toNat = j by omega]
  have hbk : Bk (D.P ++ [wPst ((j : Int) + 1) D.I[j]]) := hpl ▸ h.bk.post _
  have hws : ∀ o, wsum o (D.I.set j { D.I[j] with s := 2 }) = wsum o D.I + (if D.I[j].o = o then D.I[j].a else 0) := fun o => by
    rw [wsum_set o _ j hj, wItem, if_neg (by rw [hs]; simp), wItem]
    by_cases h1 : D.I[j].o = o
    · rw [if_pos ⟨h1, rfl⟩, if_pos h1]; dsimp only; omega
    · rw [if_neg (fun hh => h1 hh.1), if_neg h1]; omega
  have hb4 : ∀ o, o ≠ 0 → bal (D.P ++ [wPst ((j : Int) + 1) D.I[j]]) 4 o = wsum o (D.I.set j { D.I[j] with s := 2 }) := fun o ho => by
    rw [bal_snoc, h.b4 o ho, hws, (wPst_delta _ _ o ho).1]
  have hb1 : ∀ o, o ≠ 0 → bal (D.P ++ [wPst ((j : Int) + 1) D.I[j]]) 1 o = -wsum o (D.I.set j { D.I[j] with s := 2 }) := fun o ho => by
    rw [bal_snoc, h.b1 o ho, hws, (wPst_delta _ _ o ho).2]
    omega
  refine ⟨j, hj, rfl, hs, hx, hb, hD, ?_, ?_, ?_, hw2⟩
  · rw [hD]
    refine ⟨hbk, by simpa using h.len, fun z hz => ?_, fun p hp => ?_, hb4, hb1⟩
    · rcases List.mem_or_eq_of_mem_set hz with hz | rfl
      · exact h.it z hz
      · obtain ⟨a1, a2, a3, a4, _⟩ := hin
        exact ⟨a1, a2, a3, a4, rfl⟩
    · rcases List.mem_append.1 hp with hp | hp
      · obtain ⟨k, hk, e1, e2⟩ := h.ids p hp
        have hne : j ≠ k := by
          rintro rfl
          rw [hs] at e2
          cases e2
        refine ⟨k, by simpa using hk, e1, ?_⟩
        simp only
        rw [List.getElem_set_ne hne]
        exact e2
      · obtain rfl := List.mem_singleton.1 hp
        refine ⟨j, by simpa using hj, hid, ?_⟩
        simp only
        rw [List.getElem_set_self]
  · have := leftF_in D.I D.I[j].o writS (hS.bal_in 1 D.I[j].o)
    rw [hl] at this
    exact this
  · have := hbk.bal_in 4 D.I[j].o
    rw [hb4 _ hO, hws, if_pos rfl] at this
    exact this
end Go.Proofs.YtibabfedpdoofaaGreatDoor

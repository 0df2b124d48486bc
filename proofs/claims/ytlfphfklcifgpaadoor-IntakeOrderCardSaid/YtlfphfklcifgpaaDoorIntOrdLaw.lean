/-
  The newest statement of each party does not depend on the order that statements come in; conditions: no two numbers are alike.
-/
import Derived.Test.YtlfphfklcifgpaaDoorIntOf
namespace Go.Proofs.YtlfphfklcifgpaaDoor
open Go.RowKit Go.Own

def okSt (s : StI) : Bool := okStmt s.p s.q s.rs
/-- What an intake has of a party. -/
def InS.part (A : InS) (p : Int) : Int × Int × List RowS := if p = 0 then (A.p0, A.q0, A.r0) else if p = 1 then (A.p1, A.q1, A.r1) else (A.p2, A.q2, A.r2)
def BestOf (T : List StI) (p : Int) (x : Int × Int × List RowS) : Prop :=
  ((∀ s ∈ T, s.p = p → okSt s = true → False) ∧ x = (0, 0, [])) ∨ ∃ s ∈ T, s.p = p ∧ okSt s = true ∧ x = (p, s.q, s.rs) ∧ ∀ s' ∈ T, s'.p = p → okSt s' = true → s'.q ≤ s.q
def Best (T : List StI) (B : InS) : Prop := ∀ p, 0 ≤ p → p ≤ 2 → BestOf T p (B.part p)
theorem seq_part (B : InS) (p : Int) : B.seq p = (B.part p).2.1 := by
  unfold InS.seq InS.part
  split
  · rfl
  · split <;> rfl
theorem part_put (B : InS) (p p' q : Int) (rs : List RowS) (h0 : 0 ≤ p) (h2 : p ≤ 2) (g0 : 0 ≤ p') (g2 : p' ≤ 2) : (B.put p' q rs).part p = if p' = p then (p, q, rs) else B.part p := by
  have hp : p = 0 ∨ p = 1 ∨ p = 2 := by omega
  have hp' : p' = 0 ∨ p' = 1 ∨ p' = 2 := by omega
  rcases hp with rfl | rfl | rfl <;> rcases hp' with rfl | rfl | rfl <;> rfl
theorem best_nil : Best [] zeroI := fun p h0 h2 => .inl ⟨by simp, by
  have hp : p = 0 ∨ p = 1 ∨ p = 2 := by omega
  rcases hp with rfl | rfl | rfl <;> rfl⟩
theorem best_step {T : List StI} {B : InS} (h : Best T B) (s : StI) : Best (T ++ [s]) (stepI B s.p s.q s.rs) := by
  intro p h0 h2
  unfold stepI
  by_cases ha : accE B s.p s.q s.rs = 0
  · rw [if_pos ha]
    obtain ⟨hok, hq⟩ := accE_ok ha
    obtain ⟨q1, _, p0, p2, _, _⟩ := okStmt_ok hok
    rw [part_put B p s.p s.q s.rs h0 h2 p0 p2]
    by_cases e : s.p = p
    · rw [if_pos e]
      refine .inr ⟨s, by simp, e, hok, rfl, fun s' hs' e' hok' => ?_⟩
      rw [seq_part, e] at hq
      rcases List.mem_append.1 hs' with hs' | hs'
      · rcases h p h0 h2 with ⟨h1, _⟩ | ⟨t, _, _, _, h5, h6⟩
        · exact (h1 s' hs' e' hok').elim
        · have := h6 s' hs' e' hok'
          rw [h5] at hq
          simp only at hq
          omega
      · obtain rfl := List.mem_singleton.1 hs'
        omega
    · rw [if_neg e]
      rcases h p h0 h2 with ⟨h1, h3⟩ | ⟨t, h1, h3, h4, h5, h6⟩
      · refine .inl ⟨fun s' hs' e' hok' => ?_, h3⟩
        rcases List.mem_append.1 hs' with hs' | hs'
        · exact h1 s' hs' e' hok'
        · obtain rfl := List.mem_singleton.1 hs'
          exact e e'
      · refine .inr ⟨t, List.mem_append_left _ h1, h3, h4, h5, fun s' hs' e' hok' => ?_⟩
        rcases List.mem_append.1 hs' with hs' | hs'
        · exact h6 s' hs' e' hok'
        · obtain rfl := List.mem_singleton.1 hs'
          exact (e e').elim
  · rw [if_neg ha]
    have hno : s.p = p → okSt s = true → s.q ≤ (B.part p).2.1 := fun e hok => by
      have := ha
      unfold accE at this
      rw [if_pos (show okStmt s.p s.q s.rs = true from hok)] at this
      rw [← e, ← seq_part]
      by_cases hh : s.q ≤ B.seq s.p
      · exact hh
      · rw [if_neg hh] at this
        exact (this rfl).elim
    rcases h p h0 h2 with ⟨h1, h3⟩ | ⟨t, h1, h3, h4, h5, h6⟩
    · refine .inl ⟨fun s' hs' e' hok' => ?_, h3⟩
      rcases List.mem_append.1 hs' with hs' | hs'
      · exact h1 s' hs' e' hok'
      · obtain rfl := List.mem_singleton.1 hs'
        have := hno e' hok'
        have := (okStmt_ok hok').1
        rw [h3] at hno
        have := hno e' hok'
        simp only at this
        omega
    · refine .inr ⟨t, List.mem_append_left _ h1, h3, h4, h5, fun s' hs' e' hok' => ?_⟩
      rcases List.mem_append.1 hs' with hs' | hs'
      · exact h6 s' hs' e' hok'
      · obtain rfl := List.mem_singleton.1 hs'
        have := hno e' hok'
        rw [h5] at this
        exact this
theorem best_fold : ∀ (T T0 : List StI) (B : InS), Best T0 B → Best (T0 ++ T) (foldI B T)
  | [], T0, B, h => by rw [List.append_nil]; exact h
  | s :: T, T0, B, h => by
    have := best_fold T (T0 ++ [s]) _ (best_step h s)
    rw [List.append_assoc, List.singleton_append] at this
    exact this
theorem best_one {T T' : List StI} {A B : InS} (hA : Best T A) (hB : Best T' B) (h1 : ∀ s ∈ T, s ∈ T') (h2 : ∀ s ∈ T', s ∈ T) (hi : ∀ s ∈ T, ∀ s' ∈ T, s.q = s'.q → s = s') : A = B := by
  have key : ∀ p, 0 ≤ p → p ≤ 2 → A.part p = B.part p := fun p h0 h3 => by
    rcases hA p h0 h3 with ⟨a1, a2⟩ | ⟨s, a1, a2, a3, a4, a5⟩ <;> rcases hB p h0 h3 with ⟨b1, b2⟩ | ⟨t, b1, b2, b3, b4, b5⟩
    · rw [a2, b2]
    · exact (a1 t (h2 t b1) b2 b3).elim
    · exact (b1 s (h1 s a1) a2 a3).elim
    · have e1 := a5 t (h2 t b1) b2 b3
      have e2 := b5 s (h1 s a1) a2 a3
      obtain rfl := hi s a1 t (h2 t b1) (by omega)
      rw [a4, b4]
  have k0 := key 0 (by omega) (by omega)
  have k1 := key 1 (by omega) (by omega)
  have k2 := key 2 (by omega) (by omega)
  cases A
  cases B
  simp [InS.part] at k0 k1 k2
  obtain ⟨rfl, rfl, rfl⟩ := k0
  obtain ⟨rfl, rfl, rfl⟩ := k1
  obtain ⟨rfl, rfl, rfl⟩ := k2
  rfl
/-- Statements of which the first i have the numbers 1 to i. -/
def numT (i : Nat) (ss : List StI) : List StI := ss.mapIdx fun j s => if j < i then { s with q := (j : Int) + 1 } else s
theorem numT_len (i : Nat) (ss : List StI) : (numT i ss).length = ss.length := by simp [numT]
theorem numT_zero (ss : List StI) : numT 0 ss = ss := by
  refine List.ext_getElem (by simp [numT]) fun j h1 h2 => ?_
  simp [numT]
theorem numT_rows {i : Nat} {ss : List StI} {s : StI} (h : s ∈ numT i ss) : ∃ t ∈ ss, s.v = t.v ∧ s.rs = t.rs := by
  obtain ⟨j, hj, rfl⟩ := List.mem_iff_getElem.1 h
  rw [numT_len] at hj
  refine ⟨ss[j], List.getElem_mem hj, ?_⟩
  simp only [numT, List.getElem_mapIdx]
  split <;> exact ⟨rfl, rfl⟩
theorem numT_get {i : Nat} {ss : List StI} (hi : i < ss.length) : (numT i ss)[i]'(by rw [numT_len]; exact hi) = ss[i] := by
  simp [numT]
theorem numT_set {i : Nat} {ss : List StI} (hi : i < ss.length) : ((numT i ss).map stC).set i ((stC ss[i]).set 1 (.int .i64 ((i : Int) + 1))) = (numT (i + 1) ss).map stC := by
  refine List.ext_getElem (by simp [numT]) fun j h1 h2 => ?_
  rw [List.getElem_set]
  simp only [List.getElem_map, numT, List.getElem_mapIdx]
  split
  · rename_i e
    subst e
    simp [stC]
  · rename_i e
    by_cases hj : j < i
    · rw [if_pos hj, if_pos (by omega)]
    · rw [if_neg hj, if_neg (by omega)]
theorem numT_inj {ss : List StI} : ∀ s ∈ numT ss.length ss, ∀ s' ∈ numT ss.length ss, s.q = s'.q → s = s' := by
  intro s hs s' hs' e
  obtain ⟨j, hj, rfl⟩ := List.mem_iff_getElem.1 hs
  obtain ⟨k, hk, rfl⟩ := List.mem_iff_getElem.1 hs'
  have hj' := hj
  have hk' := hk
  rw [numT_len] at hj' hk'
  have e1 : ∀ m (h : m < ss.length), ((numT ss.length ss)[m]'(by rw [numT_len]; exact h)).q = (m : Int) + 1 := fun m h => by
    simp only [numT, List.getElem_mapIdx]
    rw [if_pos h]
  rw [e1 j hj', e1 k hk'] at e
  obtain rfl : j = k := by omega
  rfl
/-- In the end all are the same. -/
theorem ord_same {ss T : List StI} {B : InS} (hB : Best T B) (h1 : ∀ s ∈ T, s ∈ numT ss.length ss) (h2 : ∀ s ∈ numT ss.length ss, s ∈ T) : foldI zeroI (numT ss.length ss) = B := by
  have hA := best_fold (numT ss.length ss) [] zeroI best_nil
  rw [List.nil_append] at hA
  exact best_one hA hB h2 h1 numT_inj
end Go.Proofs.YtlfphfklcifgpaaDoor

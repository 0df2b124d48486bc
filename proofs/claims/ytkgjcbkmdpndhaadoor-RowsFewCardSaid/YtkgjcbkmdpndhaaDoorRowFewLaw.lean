/-
  The plain law of rows: of some that are left out, come twice, or change places, and what an order was charged; conditions: none.
-/
import Derived.Test.YtkgjcbkmdpndhaaDoorRowNet
namespace Go.Proofs.YtkgjcbkmdpndhaaDoor
open Go.RowKit Go.Own

def LessR (a b : RowS) : Prop := keyLess a.o a.d b.o b.d = true
theorem LessR.trans {a b c : RowS} (h1 : LessR a b) (h2 : LessR b c) : LessR a c := by
  simp only [LessR, keyLess, Bool.or_eq_true, Bool.and_eq_true, decide_eq_true_eq] at *
  omega
theorem LessR.irr {a b : RowS} (h1 : LessR a b) (h2 : LessR b a) : False := by
  simp only [LessR, keyLess, Bool.or_eq_true, Bool.and_eq_true, decide_eq_true_eq] at *
  omega
theorem chkRows_iff {rs : List RowS} {p : Int} : chkRows rs p = true ↔ 0 ≤ p ∧ p ≤ 2 ∧ rs.length ≤ 400 ∧ (∀ r ∈ rs, mayRow r p = true) ∧ rs.Pairwise LessR := by
  simp only [chkRows, Bool.and_eq_true, decide_eq_true_eq, List.all_eq_true, List.mem_range]
  constructor
  · rintro ⟨⟨⟨h1, h2⟩, h3⟩, h4⟩
    have hs : ∀ i (hi : i + 1 < rs.length), LessR (rs[i]'(by omega)) rs[i + 1] := fun i hi => by
      have := h4 (i + 1) hi
      simp only [rowOkAt, List.getElem?_eq_getElem hi, Nat.add_sub_cancel, List.getElem?_eq_getElem (show i < rs.length by omega), Bool.and_eq_true] at this
      simpa [LessR] using this.2
    refine ⟨h1, h2, h3, fun r hr => ?_, ?_⟩
    · obtain ⟨i, hi, rfl⟩ := List.mem_iff_getElem.1 hr
      have := h4 i hi
      simp only [rowOkAt, List.getElem?_eq_getElem hi, Bool.and_eq_true] at this
      exact this.1
    · rw [List.pairwise_iff_getElem]
      intro i j hi hj hij
      induction j with
      | zero => omega
      | succ j ih =>
        by_cases e : i = j
        · subst e; exact hs i hj
        · exact (ih (by omega) (by omega)).trans (hs j hj)
  · rintro ⟨h1, h2, h3, h4, h5⟩
    refine ⟨⟨⟨h1, h2⟩, h3⟩, fun i hi => ?_⟩
    simp only [rowOkAt, List.getElem?_eq_getElem hi, h4 _ (List.getElem_mem hi), Bool.true_and]
    cases i with
    | zero => simp
    | succ i =>
      rw [List.pairwise_iff_getElem] at h5
      have := h5 i (i + 1) (by omega) hi (by omega)
      simp only [Nat.add_sub_cancel, List.getElem?_eq_getElem (show i < rs.length by omega)]
      simpa [LessR] using this
theorem chkRows_sub {rs F : List RowS} {p : Int} (h : chkRows rs p = true) (hs : F.Sublist rs) : chkRows F p = true := by
  obtain ⟨h1, h2, h3, h4, h5⟩ := chkRows_iff.1 h
  exact chkRows_iff.2 ⟨h1, h2, Nat.le_trans hs.length_le h3, fun r hr => h4 r (hs.mem hr), h5.sublist hs⟩
theorem chkRows_two {rs : List RowS} {p : Int} {i : Nat} (hi : i < rs.length) : chkRows (rs.take (i + 1) ++ rs.drop i) p = false := by
  cases hc : chkRows (rs.take (i + 1) ++ rs.drop i) p with
  | false => rfl
  | true =>
    obtain ⟨_, _, _, _, h5⟩ := chkRows_iff.1 hc
    have h6 := (List.pairwise_append.1 h5).2.2 rs[i] (List.mem_iff_getElem.2 ⟨i, by simp; omega, by simp⟩) rs[i] (List.mem_iff_getElem.2 ⟨0, by simp; omega, by simp⟩)
    exact absurd h6 (fun h => h.irr h)
theorem chkRows_turn {rs : List RowS} {p : Int} {i : Nat} (hi : i + 1 < rs.length) (h : chkRows rs p = true) : chkRows ((rs.set (i + 1) (rs[i]'(by omega))).set i rs[i + 1]) p = false := by
  cases hc : chkRows ((rs.set (i + 1) (rs[i]'(by omega))).set i rs[i + 1]) p with
  | false => rfl
  | true =>
    obtain ⟨_, _, _, _, h5⟩ := chkRows_iff.1 hc
    obtain ⟨_, _, _, _, h6⟩ := chkRows_iff.1 h
    rw [List.pairwise_iff_getElem] at h5 h6
    have a := h5 i (i + 1) (by simp; omega) (by simp; omega) (by omega)
    have b := h6 i (i + 1) (by omega) hi (by omega)
    simp at a
    exact absurd b (fun h => h.irr a)
def part (order k : Int) (r : RowS) : Int := if r.o = order ∧ r.d = k then r.amt else 0
theorem part_sum (order k : Int) : ∀ (l : List RowS), l.Pairwise LessR → (∀ r ∈ l, 0 ≤ r.amt ∧ r.amt ≤ 1099511627776) → 0 ≤ (l.map (part order k)).sum ∧ (l.map (part order k)).sum ≤ 1099511627776
  | [], _, _ => by simp
  | r :: l, hp, hb => by
    have ih := part_sum order k l (List.pairwise_cons.1 hp).2 (fun x hx => hb x (by simp [hx]))
    rw [List.map_cons, List.sum_cons]
    by_cases hr : r.o = order ∧ r.d = k
    · have hz : (l.map (part order k)).sum = 0 := by
        have : ∀ x ∈ l.map (part order k), x = 0 := by
          intro x hx
          obtain ⟨y, hy, rfl⟩ := List.mem_map.1 hx
          have h1 := (List.pairwise_cons.1 hp).1 y hy
          unfold part
          rw [if_neg]
          rintro ⟨h2, h3⟩
          simp only [LessR, keyLess, Bool.or_eq_true, Bool.and_eq_true, decide_eq_true_eq] at h1
          omega
        clear ih hp hb
        induction l with
        | nil => rfl
        | cons y l ihl =>
          have h0 := this (part order k y) (by simp)
          rw [List.map_cons, List.sum_cons, h0, ihl (fun x hx => this x (by simp only [List.map_cons, List.mem_cons]; exact .inr hx))]
          rfl
      have h1 := hb r (by simp)
      rw [hz, part, if_pos hr]
      omega
    · rw [part, if_neg hr]
      omega
theorem netTo_sum (order : Int) : ∀ (rs : List RowS) (j : Nat), j ≤ rs.length → netTo rs order j = ((rs.take j).map (part order 1)).sum - ((rs.take j).map (part order 4)).sum
  | rs, 0, _ => by simp [netTo]
  | rs, j + 1, h => by
    rw [netTo_succ (by omega), netTo_sum order rs j (by omega), List.take_succ_eq_append_getElem (by omega)]
    simp only [List.map_append, List.map_cons, List.map_nil, List.sum_append, List.sum_cons, List.sum_nil]
    have : contrib rs[j] order = part order 1 rs[j] - part order 4 rs[j] := by
      unfold contrib part
      by_cases h1 : rs[j].o = order
      · by_cases h2 : rs[j].d = 1
        · simp [h1, h2]
        · by_cases h3 : rs[j].d = 4 <;> simp [h1, h2, h3]
      · simp [h1]
    rw [this]
    omega
theorem netOf_bound {rs : List RowS} {p : Int} (order : Int) (h : chkRows rs p = true) : netOf rs order ≤ 1099511627776 ∧ -1099511627776 ≤ netOf rs order ∧ (p ≠ 0 → netOf rs order = 0) := by
  by_cases h0 : chkRows rs 0 = true
  · obtain ⟨_, _, _, h4, h5⟩ := chkRows_iff.1 h0
    have hb : ∀ r ∈ rs, 0 ≤ r.amt ∧ r.amt ≤ 1099511627776 := fun r hr => ⟨(payRow (h4 r hr)).1, (payRow (h4 r hr)).2.1⟩
    have e : netOf rs order = (rs.map (part order 1)).sum - (rs.map (part order 4)).sum := by
      rw [netOf, if_pos h0, netTo_sum order rs rs.length (Nat.le_refl _), List.take_length]
    have a := part_sum order 1 rs h5 hb
    have b := part_sum order 4 rs h5 hb
    refine ⟨by omega, by omega, fun hp => ?_⟩
    cases rs with
    | nil => rw [e]; rfl
    | cons r rs =>
      obtain ⟨_, _, _, g4, _⟩ := chkRows_iff.1 h
      have g := g4 r (by simp)
      have f := h4 r (by simp)
      simp only [mayRow, Bool.and_eq_true, decide_eq_true_eq] at g f
      obtain ⟨⟨⟨_, g1⟩, _⟩, _⟩ := g
      obtain ⟨⟨⟨_, f1⟩, _⟩, _⟩ := f
      omega
  · rw [netOf, if_neg h0]
    exact ⟨by decide, by decide, fun _ => rfl⟩
end Go.Proofs.YtkgjcbkmdpndhaaDoor

/-
  Postings with Ids of their own, in whichever order they come: plain Lean; conditions: none.
-/
import Derived.Test.YthiokpjakiidjaaBkSm
namespace Go.Proofs.Ythiokpjakiidjaa
open Go.RowKit Go.Own Go.Maps

theorem ownPost2 {P : List Pst} {q : Pst} (hS : SmallL P) (hl : P.length ≤ 1000) (hq : mayPst q = true ∧ q.a ≤ 1099511627775 ∧ q.o ≤ 4) (hf : findP P q.id = none) : postE P q = 0 ∧ postL P q = P ++ [q] := by
  have h1 := small_fits hS hl hq
  simp [postE, postL, hq.1, hf, h1]
theorem twicePost {P : List Pst} {q : Pst} (hq : mayPst q = true) (hf : findP P q.id = none) : postE (P ++ [q]) q = 0 ∧ postL (P ++ [q]) q = P ++ [q] := by
  have h1 : findP (P ++ [q]) q.id = some q := by rw [findP_snoc, hf]; simp
  simp [postE, postL, hq, h1]
/-- Postings of Ids of their own, small, as Go can hold them. -/
structure OwnL (O : List Pst) : Prop where
  s : SmallL O
  w : ∀ p ∈ O, WfP p
  d : ∀ i j (hi : i < O.length) (hj : j < O.length), O[i].id = O[j].id → i = j
/-- The postings of O at places without repeats, as books. -/
def sel (O : List Pst) (is : List Nat) : List Pst := is.filterMap (fun i => O[i]?)
theorem sel_snoc {O : List Pst} {is : List Nat} {i : Nat} (hi : i < O.length) : sel O (is ++ [i]) = sel O is ++ [O[i]] := by
  simp [sel, List.filterMap_append, hi]
theorem sel_sub {O : List Pst} {is : List Nat} : ∀ p ∈ sel O is, p ∈ O := fun p hp => by
  obtain ⟨i, _, h⟩ := List.mem_filterMap.1 hp
  exact List.mem_of_getElem? h
theorem sel_len {O : List Pst} {is : List Nat} : (sel O is).length ≤ is.length := List.length_filterMap_le _ _
theorem OwnL.small {O : List Pst} (h : OwnL O) (is : List Nat) : SmallL (sel O is) := fun p hp => h.s p (sel_sub p hp)
theorem OwnL.find {O : List Pst} (h : OwnL O) {is : List Nat} {i : Nat} (hi : i < O.length) (hn : i ∉ is) : findP (sel O is) O[i].id = none := by
  refine findP_none (fun q hq he => ?_)
  obtain ⟨j, hj, h1⟩ := List.mem_filterMap.1 hq
  obtain ⟨hjl, rfl⟩ := List.getElem?_eq_some_iff.1 h1
  rw [h.d j i hjl hi he] at hj
  exact hn hj
theorem not_mem_take {is : List Nat} (hd : ∀ a b (ha : a < is.length) (hb : b < is.length), is[a] = is[b] → a = b) {k : Nat} (hk : k < is.length) : is[k] ∉ is.take k := fun hm => by
  obtain ⟨a, ha, e⟩ := List.mem_iff_getElem.1 hm
  rw [List.length_take] at ha
  rw [List.getElem_take] at e
  have := hd a k (by omega) hk e
  omega
theorem OwnL.bk {O : List Pst} (h : OwnL O) {is : List Nat} (hd : ∀ a b (ha : a < is.length) (hb : b < is.length), is[a] = is[b] → a = b) (hi : ∀ i ∈ is, i < O.length) (hl : is.length ≤ 500) : ∀ k, k ≤ is.length → Bk (sel O (is.take k)) ∧ (sel O (is.take k)).length = k
  | 0, _ => ⟨.nil, rfl⟩
  | k + 1, hk => by
    obtain ⟨hb, hlen⟩ := OwnL.bk h hd hi hl k (by omega)
    have hi' := hi is[k] (List.getElem_mem _)
    have hq := h.s O[is[k]] (List.getElem_mem hi')
    have := ownPost2 (h.small (is.take k)) (by omega) hq (h.find hi' (not_mem_take hd (by omega)))
    rw [List.take_succ_eq_append_getElem (by omega), sel_snoc hi']
    refine ⟨?_, by rw [List.length_append, hlen]; rfl⟩
    rw [← this.2]
    exact hb.post _
theorem bal_perm {l m : List Pst} (h : l.Perm m) (n o : Int) : bal l n o = bal m n o := by
  induction h with
  | nil => rfl
  | cons x _ ih => simp only [bal, ih]
  | swap x y l => simp only [bal]; omega
  | trans _ _ h1 h2 => exact h1.trans h2
theorem sel_range (O : List Pst) : ∀ k, k ≤ O.length → sel O (List.range k) = O.take k
  | 0, _ => rfl
  | k + 1, hk => by rw [List.range_succ, sel_snoc (by omega), sel_range O k (by omega), List.take_succ_eq_append_getElem (by omega)]
theorem sel_all (O : List Pst) : sel O (List.range O.length) = O := by rw [sel_range O _ (Nat.le_refl _), List.take_length]
def turned (n by' : Nat) : List Nat := (List.range n).map (fun i => (i + by') % n)
theorem turned_len (n by' : Nat) : (turned n by').length = n := by simp [turned]
theorem turned_lt {n by' : Nat} : ∀ i ∈ turned n by', i < n := fun i hi => by
  obtain ⟨j, hj, rfl⟩ := List.mem_map.1 hi
  have := List.mem_range.1 hj
  exact Nat.mod_lt _ (by omega)
theorem turned_at {n by' i : Nat} (hi : i < (turned n by').length) : (turned n by')[i] = (i + by') % n := by simp [turned]
theorem turned_inj {n by' : Nat} : ∀ a b (ha : a < (turned n by').length) (hb : b < (turned n by').length), (turned n by')[a] = (turned n by')[b] → a = b := fun a b ha hb h => by
  rw [turned_at, turned_at] at h
  rw [turned_len] at ha hb
  have ma := Nat.add_mod a by' n
  have mb := Nat.add_mod b by' n
  rw [Nat.mod_eq_of_lt ha] at ma
  rw [Nat.mod_eq_of_lt hb] at mb
  have hm : by' % n < n := Nat.mod_lt _ (by omega)
  rw [ma, mb] at h
  generalize by' % n = m at *
  have h1 : ∀ x, x < n → (x + m) % n = if x + m < n then x + m else x + m - n := fun x hx => by
    split
    · exact Nat.mod_eq_of_lt (by assumption)
    · rw [Nat.mod_eq_sub_mod (by omega), Nat.mod_eq_of_lt (by omega)]
  rw [h1 a ha, h1 b hb] at h
  split at h <;> split at h <;> omega
theorem turned_perm (n by' : Nat) : (turned n by').Perm (List.range n) := by
  by_cases h0 : n = 0
  · subst h0; exact .refl _
  have hm : by' % n < n := Nat.mod_lt _ (by omega)
  have e : turned n by' = (List.range n).drop (by' % n) ++ (List.range n).take (by' % n) := by
    apply List.ext_getElem
    · simp [turned_len]; omega
    · intro i h1 h2
      rw [turned_at]
      rw [turned_len] at h1
      rw [Nat.add_mod, Nat.mod_eq_of_lt h1]
      generalize by' % n = m at *
      rw [List.getElem_append]
      split
      · rename_i hlt
        simp at hlt ⊢
        rw [Nat.mod_eq_of_lt (by omega)]; omega
      · rename_i hlt
        simp at hlt ⊢
        rw [Nat.mod_eq_sub_mod (by omega), Nat.mod_eq_of_lt (by omega)]; omega
  rw [e]
  exact (List.perm_append_comm).trans (by rw [List.take_append_drop])
theorem sel_turned (O : List Pst) (by' : Nat) (n o : Int) : bal (sel O (turned O.length by')) n o = bal O n o := by
  refine bal_perm ?_ n o
  have := (turned_perm O.length by').filterMap (fun i => O[i]?)
  have h2 := sel_all O
  unfold sel at *
  rw [h2] at this
  exact this
/-- One more posting, and the same again. -/
theorem OwnL.step {O : List Pst} (h : OwnL O) {is : List Nat} (hd : ∀ a b (ha : a < is.length) (hb : b < is.length), is[a] = is[b] → a = b) (hi : ∀ i ∈ is, i < O.length) (hl : is.length ≤ 500) {k : Nat} (hk : k < is.length) (hik : is[k] < O.length) :
    (Bk (sel O (is.take k)) ∧ (sel O (is.take k)).length ≤ 500 ∧ postE (sel O (is.take k)) O[is[k]] = 0 ∧ postL (sel O (is.take k)) O[is[k]] = sel O (is.take (k + 1))) ∧
      (Bk (sel O (is.take (k + 1))) ∧ (sel O (is.take (k + 1))).length ≤ 500 ∧ postE (sel O (is.take (k + 1))) O[is[k]] = 0 ∧ postL (sel O (is.take (k + 1))) O[is[k]] = sel O (is.take (k + 1))) := by
  obtain ⟨b1, l1⟩ := h.bk hd hi hl k (by omega)
  obtain ⟨b2, l2⟩ := h.bk hd hi hl (k + 1) (by omega)
  have hq := h.s O[is[k]] (List.getElem_mem hik)
  have hf := h.find hik (not_mem_take hd hk)
  have p1 := ownPost2 (h.small (is.take k)) (by omega) hq hf
  have p2 := twicePost hq.1 hf
  have e : sel O (is.take (k + 1)) = sel O (is.take k) ++ [O[is[k]]] := by rw [List.take_succ_eq_append_getElem hk, sel_snoc hik]
  rw [← e] at p1 p2
  exact ⟨⟨b1, by omega, p1⟩, b2, by omega, p2⟩
theorem OwnL.len {O : List Pst} (h : OwnL O) (hl : O.length ≤ 500) (by' : Nat) : (sel O (turned O.length by')).length = O.length := by
  have := (h.bk turned_inj turned_lt (by rw [turned_len]; exact hl) (turned O.length by').length (Nat.le_refl _)).2
  rw [List.take_length, turned_len] at this
  exact this
end Go.Proofs.Ythiokpjakiidjaa

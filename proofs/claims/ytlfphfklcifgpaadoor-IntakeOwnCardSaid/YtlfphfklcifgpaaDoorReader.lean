/-
  What the reader of orders does, by walking its text; conditions: it lies in memory, apart from what the calls make.
-/
import Derived.Test.YtlfphfklcifgpaaDoorOrders
namespace Go.Proofs.YtlfphfklcifgpaaDoor
open Go.RowKit Go.Own

/-- A reader: what is left, and whether all was well. -/
abbrev Rdr := List UInt8 × Bool
def rdNum (most : Nat) (st : Rdr) : Nat × Rdr := match readB st.1 with
  | some (n, r) => if st.2 = true ∧ n ≤ most then (n, (r, true)) else (0, (r, false))
  | none => (0, ([], false))
def rdText (st : Rdr) : List UInt8 × Rdr := match cutB st.1 with
  | some (s, r) => (s, (r, st.2))
  | none => ([], ([], false))

/-- What a call of the reader leaves: memory grown, but for the reader's own block, and the reader's two cells. -/
structure After (b : Nat) (w : World) (st : Rdr) (w' : World) : Prop where
  os : w'.os = w.os
  tape : w'.tape = w.tape
  output : w'.output = w.output
  size : w.heap.size ≤ w'.heap.size
  block : ∀ k, k < w.heap.size → k ≠ b → w'.heap[k]? = w.heap[k]?
  c0 : w'.cell? ⟨b, 0, none⟩ = some (.string ⟨st.1.toArray⟩)
  c1 : w'.cell? ⟨b, 1, none⟩ = some (.bool st.2)
  f0 : w'.frozen? ⟨b, 0, none⟩ = false
  f1 : w'.frozen? ⟨b, 1, none⟩ = false
theorem After.cells {b : Nat} {w : World} {st : Rdr} {w' : World} (h : After b w st w') : (∀ k o, k < w.heap.size → k ≠ b → w'.cell? ⟨k, o, none⟩ = w.cell? ⟨k, o, none⟩) ∧ (∀ k o, k < w.heap.size → k ≠ b → w'.frozen? ⟨k, o, none⟩ = w.frozen? ⟨k, o, none⟩) :=
  ⟨fun k o hk hne => World.cell?_of_block (w := w) (a := ⟨k, o, none⟩) (h.block k hk hne), fun k o hk hne => World.frozen?_of_block (w := w) (a := ⟨k, o, none⟩) (h.block k hk hne)⟩
theorem After.below {b B : Nat} {a w : World} {st : Rdr} {w' : World} (h : After b w st w') (hb : Below B a w) (h1 : B ≤ b) (h2 : B ≤ w.heap.size) : Below B a w' :=
  hb.trans ⟨h.os, h.tape, h.output, h.size, fun k hk => h.block k (by omega) (by omega)⟩
theorem setCell_isSome {w : World} {a c : Addr} {v : Value} (h : (w.cell? c).isSome = true) : ((w.setCell a v).cell? c).isSome = true := by
  obtain ⟨u, hu⟩ := Option.isSome_iff_exists.1 h
  by_cases e : a = c
  · subst e; rw [World.cell?_setCell_same _ _ _ hu]; rfl
  · rw [World.cell?_setCell_other _ _ _ _ e, hu]; rfl
theorem after_mk {b : Nat} {w w1 : World} {x : List UInt8} {y : Bool} {u0 u1 : Value} (hb : Below w.heap.size w w1) (hb0 : b < w.heap.size) (c0 : w.cell? ⟨b, 0, none⟩ = some u0) (c1 : w.cell? ⟨b, 1, none⟩ = some u1)
    (f0 : w.frozen? ⟨b, 0, none⟩ = false) (f1 : w.frozen? ⟨b, 1, none⟩ = false) (st : Rdr) (hst : st = (x, y)) :
    After b w st ((w1.setCell ⟨b, 0, none⟩ (.string ⟨x.toArray⟩)).setCell ⟨b, 1, none⟩ (.bool y)) := by
  subst hst
  obtain ⟨hc, hf⟩ := bcell hb
  have e0 : w1.cell? ⟨b, 0, none⟩ = some u0 := (hc b 0 hb0).trans c0
  have e1 : w1.cell? ⟨b, 1, none⟩ = some u1 := (hc b 1 hb0).trans c1
  have hsz := hb.size
  refine ⟨hb.os, hb.tape, hb.output, by simpa using hsz, fun k hk hne => ?_, ?_, ?_, ?_, ?_⟩
  · rw [Below.heap_setCell _ _ _ _ hne, Below.heap_setCell _ _ _ _ hne]; exact hb.block k hk
  · rw [World.cell?_setCell_other _ _ _ _ (by simp), World.cell?_setCell_same _ _ _ e0]
  · refine World.cell?_setCell_same (u := u1) _ _ _ ?_
    rw [World.cell?_setCell_other _ _ _ _ (by simp)]; exact e1
  · simp [hf b 0 hb0, f0]
  · simp [hf b 1 hb0, f1]

set_option maxHeartbeats 2000000 in
theorem number_any (b : Nat) (l : List UInt8) (ok : Bool) (most : Nat) (M : Int) (hM : M = most) (w : World) (hl : l.length ≤ maxLen) (hm : most ≤ 1099511627776)
    (hb0 : b < w.heap.size) (c0 : w.cell? ⟨b, 0, none⟩ = some (.string ⟨l.toArray⟩)) (c1 : w.cell? ⟨b, 1, none⟩ = some (.bool ok)) (f0 : w.frozen? ⟨b, 0, none⟩ = false) (f1 : w.frozen? ⟨b, 1, none⟩ = false) :
    Calls Tryd.prog 86 #[.pointer (some ⟨b, 0, none⟩), .int .i64 M] w fun e w' => e = .returned (.int .i64 (rdNum most (l, ok)).1) ∧ After b w (rdNum most (l, ok)).2 w' := by
  subst hM
  have hR := fun w => read_any l w hl
  have e1 := wrap_u64 most (by omega)
  cases hr : readB l with
  | none =>
    have HQ := Lib.hid (show rdNum most (l, ok) = (0, ([], false)) by simp [rdNum, hr])
    rw [hr] at hR
    clear hr
    simp only [retRead] at hR
    cases ok
    all_goals
      go_enter Tryd.func86, Tryd.ntmps86
      go_wp2_with (go_at_call 65; go_must ((with_reducible refine (hR _).mono ?_); rintro e w1 ⟨rfl, hb⟩; obtain ⟨hc, hf⟩ := bcell hb; have hz := hb.size; (try simp at hz); (try have hzT := Nat.lt_of_succ_le hz)))
      go_ret
      rw [HQ.out]
      exact ⟨rfl, after_mk hb hb0 c0 c1 f0 f1 _ rfl⟩
  | some x =>
    obtain ⟨n, r⟩ := x
    rw [hr] at hR
    simp only [retRead] at hR
    by_cases hok : ok = true ∧ n ≤ most
    · obtain ⟨rfl, hn⟩ := hok
      have HQ := Lib.hid (show rdNum most (l, true) = (n, (r, true)) by simp [rdNum, hr, hn])
      clear hr
      have hn1 : (n : Int) ≤ (most : Int) := by omega
      go_enter Tryd.func86, Tryd.ntmps86
      go_wp2_with (go_at_call 65; go_must ((with_reducible refine (hR _).mono ?_); rintro e w1 ⟨rfl, hb⟩; obtain ⟨hc, hf⟩ := bcell hb; have hz := hb.size; (try simp at hz); (try have hzT := Nat.lt_of_succ_le hz)))
      go_ret
      rw [HQ.out]
      exact ⟨rfl, after_mk hb hb0 c0 c1 f0 f1 _ rfl⟩
    · have HQ := Lib.hid (show rdNum most (l, ok) = (0, (r, false)) by simp only [rdNum, hr]; rw [if_neg hok])
      clear hr
      cases ok
      · go_enter Tryd.func86, Tryd.ntmps86
        go_wp2_with (go_at_call 65; go_must ((with_reducible refine (hR _).mono ?_); rintro e w1 ⟨rfl, hb⟩; obtain ⟨hc, hf⟩ := bcell hb; have hz := hb.size; (try simp at hz); (try have hzT := Nat.lt_of_succ_le hz)))
        go_ret
        rw [HQ.out]
        exact ⟨rfl, after_mk hb hb0 c0 c1 f0 f1 _ rfl⟩
      · have hn0 : most < n := by simp at hok; omega
        have hn1 : (most : Int) < (n : Int) := by omega
        have hd1 : decide (n ≤ most) = false := by simp; omega
        have hd2 : decide ((n : Int) ≤ (most : Int)) = false := by simp; omega
        clear hn0 hok
        go_enter Tryd.func86, Tryd.ntmps86
        go_wp2_with (go_at_call 65; go_must ((with_reducible refine (hR _).mono ?_); rintro e w1 ⟨rfl, hb⟩; obtain ⟨hc, hf⟩ := bcell hb; have hz := hb.size; (try simp at hz); (try have hzT := Nat.lt_of_succ_le hz)))
        go_ret
        rw [HQ.out]
        exact ⟨rfl, after_mk hb hb0 c0 c1 f0 f1 _ rfl⟩

set_option maxHeartbeats 2000000 in
theorem rtext_any (b : Nat) (l : List UInt8) (ok : Bool) (w : World) (hl : l.length ≤ maxLen)
    (hb0 : b < w.heap.size) (c0 : w.cell? ⟨b, 0, none⟩ = some (.string ⟨l.toArray⟩)) (c1 : w.cell? ⟨b, 1, none⟩ = some (.bool ok)) (f0 : w.frozen? ⟨b, 0, none⟩ = false) (f1 : w.frozen? ⟨b, 1, none⟩ = false) :
    Calls Tryd.prog 87 #[.pointer (some ⟨b, 0, none⟩)] w fun e w' => e = .returned (.string ⟨(rdText (l, ok)).1.toArray⟩) ∧ After b w (rdText (l, ok)).2 w' := by
  have hR := fun w => cut_any l w hl
  cases hr : cutB l with
  | none =>
    have HQ := Lib.hid (show rdText (l, ok) = ([], ([], false)) by simp [rdText, hr])
    rw [hr] at hR
    clear hr
    simp only [retCut] at hR
    cases ok
    all_goals
      go_enter Tryd.func87, Tryd.ntmps87
      go_wp2_with (go_at_call 95; go_must ((with_reducible refine (hR _).mono ?_); rintro e w1 ⟨rfl, hb⟩; obtain ⟨hc, hf⟩ := bcell hb; have hz := hb.size; (try simp at hz); (try have hzT := Nat.lt_of_succ_le hz)))
      go_ret
      rw [HQ.out]
      exact ⟨rfl, after_mk hb hb0 c0 c1 f0 f1 _ rfl⟩
  | some x =>
    obtain ⟨s, r⟩ := x
    have HQ := Lib.hid (show rdText (l, ok) = (s, (r, ok)) by simp [rdText, hr])
    rw [hr] at hR
    simp only [retCut] at hR
    clear hr
    cases ok
    all_goals
      go_enter Tryd.func87, Tryd.ntmps87
      go_wp2_with (go_at_call 95; go_must ((with_reducible refine (hR _).mono ?_); rintro e w1 ⟨rfl, hb⟩; obtain ⟨hc, hf⟩ := bcell hb; have hz := hb.size; (try simp at hz); (try have hzT := Nat.lt_of_succ_le hz)))
      go_ret
      rw [HQ.out]
      exact ⟨rfl, after_mk hb hb0 c0 c1 f0 f1 _ rfl⟩
end Go.Proofs.YtlfphfklcifgpaaDoor

/-
  Regions whose order the model draws, walked in one order of one's own choice: what reads is taken as it comes up, what writes or calls where nothing else may come up; over any program; conditions: none.
-/
import Derived.Test.YthiokpjakiidjaaOwn2
import Derived.OrdersHeld
import Derived.Deep.RegionHeld3
namespace Go.Own
open Go.RowKit

/-- The pieces that stay as they are while the region runs. -/
def Held (L : List Ent) (w : World) : Prop := ∀ e ∈ L, e.F w
section
variable {P : Program} {ops : Array Oper} {Q : Exit → Act → World → Prop} {S : World → Prop}
/-- What is asked behind a list of operations: S, and R. -/
def thenQ (Q : Exit → Act → World → Prop) (S : World → Prop) (R : Act → World → Prop) : Exit → Act → World → Prop
  | .normal, a, w => S w ∧ R a w
  | e, a, w => Q e a w
/-- The walk: (number, is it quiet?). -/
def wpHeld (P : Program) (ops : Array Oper) (Q : Exit → Act → World → Prop) (S : World → Prop) : List (Nat × Bool) → Act → World → Prop
  | [], a, w => Q .normal a w
  | (i, true) :: rest, a, w => ∃ v, YieldsIf P ops S (ops.getD i default) v a ∧ wpHeld P ops Q S rest (a.put (ops.getD i default).dst v) w
  | (i, false) :: rest, a, w => wpList P ops (thenQ Q S (wpHeld P ops Q S rest)) [ops.getD i default] a w
/-- May it be walked so? -/
def schedB (ops : Array Oper) : List (Nat × Bool) → Array Bool → Bool
  | [], listed => (Region.ready .any ops listed).isEmpty
  | (i, true) :: rest, listed => decide (i < ops.size) && Region.free .any ops listed i && (Region.ready .any ops listed).contains i && schedB ops rest (listed.setIfInBounds i true)
  | (i, false) :: rest, listed => decide (i < ops.size) && (Region.ready .any ops listed == [i]) && schedB ops rest (listed.setIfInBounds i true)

theorem wpOp_of_list {i : Nat} {K : Act → World → Prop} {a : Act} {w : World} (hi : i < ops.size) (h : wpList P ops (thenQ Q S K) [ops.getD i default] a w) :
    wpOp P ops Q i (fun a' w' => S w' ∧ K a' w') a w := by
  have e : ops[i]? = some (ops.getD i default) := by simp [hi]
  generalize ops.getD i default = o at *
  unfold wpOp
  simp only [e]
  unfold wpList at h
  by_cases hw : Region.wanted o (yielded ops a.tmps) = true
  · rw [if_pos hw] at h ⊢
    rcases h with h | ⟨h1, a', w', h2⟩
    · left
      unfold Oper.wp at *
      generalize (execOp a.eval o).run P w = r at *
      cases r with
      | ok n w' =>
        cases n <;> simp only [Oper.upon] at h ⊢ <;> first
          | exact h
          | exact Calls.mono h (fun e w'' he => by cases e <;> first | exact he | (obtain ⟨a', w', hq⟩ := he; exact ⟨a', w', hq⟩))
          | exact Rows.mono h (fun _ _ he => he)
      | halt x w' => cases x <;> simp only [Oper.upon] at h ⊢ <;> exact h
    · exact .inr ⟨h1, a', w', h2⟩
  · rw [if_neg hw] at h ⊢
    exact h
theorem anyH_of_sched (hs : Region.noSelect ops = true) (hQ : ∀ c (d : Option Tmp) v a w, Q (.panic c) (Act.put a d v) w → Q (.panic c) a w) : ∀ (π : List (Nat × Bool)) (listed : Array Bool) (a : Act) (w : World), schedB ops π listed = true → S w → wpHeld P ops Q S π a w →
    wpAnyH P .any ops Q S π.length listed a w
  | [], listed, a, w, hB, _, h => wpAnyH_done (by simpa [schedB] using hB) h 0
  | (i, true) :: rest, listed, a, w, hB, hS, h => by
    simp only [schedB, Bool.and_eq_true, decide_eq_true_eq] at hB
    obtain ⟨⟨⟨h1, h2⟩, h3⟩, h4⟩ := hB
    obtain ⟨v, hy, hr⟩ := h
    exact wpAnyH_take (by simp [h1]) hs h2 h3 (fun c a w => hQ c _ _ a w) hy hS (anyH_of_sched hs hQ rest _ _ w h4 hS hr)
  | (i, false) :: rest, listed, a, w, hB, hS, h => by
    simp only [schedB, Bool.and_eq_true, decide_eq_true_eq, beq_iff_eq] at hB
    obtain ⟨⟨h1, h2⟩, h3⟩ := hB
    refine wpAnyH_all h2 (by simp) (fun j hj => ?_)
    obtain rfl := List.mem_singleton.1 hj
    have h5 := wpOp_of_list (K := wpHeld P ops Q S rest) h1 h
    exact wpOp_mono (fun a' w' h6 => ⟨h6.1, anyH_of_sched hs hQ rest _ a' w' h3 h6.1 h6.2⟩) h5
end
section
variable {P : Program}
/-- The beginning: L the call's own pieces, Ls those among them that stay. -/
theorem region_sched {Q : Exit → Act → World → Prop} {W w : World} {L : List Ent} {id : Nat} {a : Act} {l : List Oper} (Ls : List Ent) (π : List (Nat × Bool)) (hO : Own W w L) (hLs : Ls.Sublist L) (hm : P.follows .mixedOrders = true)
    (hB : (Region.noSelect l.toArray && decide (π.length = l.length) && schedB l.toArray π (Array.replicate l.toArray.size false)) = true)
    (h : ∀ w', Own W w' L → wpHeld P l.toArray (NoPanic Q) (Held Ls) π a w') : (Code.region id l.toArray true).wp P Q a w := by
  simp only [Bool.and_eq_true, decide_eq_true_eq] at hB
  obtain ⟨⟨h1, h2⟩, h3⟩ := hB
  refine wp_region_noPanic (wp_region_held (S := Held Ls) hm ?_)
  have hO' := hO.drew
  have := anyH_of_sched (P := P) (Q := NoPanic Q) (S := Held Ls) h1 (fun _ _ _ _ _ hh => (hh : False).elim) π _ a _ h3 (fun e he => hO'.has e (hLs.mem he)) (h _ hO')
  rw [h2] at this
  simpa using this
end
end Go.Own

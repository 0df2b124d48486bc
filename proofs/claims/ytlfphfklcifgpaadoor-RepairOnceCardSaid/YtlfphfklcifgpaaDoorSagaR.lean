/-
  The sagas that can be come to, as a list: what leads from one to the next; conditions: none. No program in sight.
-/
import Derived.Test.YtlfphfklcifgpaaDoorSagaD
namespace Go.Proofs.YtlfphfklcifgpaaDoor
open Go.RowKit Go.Own

/-- All that are come to, in the order in which the document's text finds them. -/
def RL : List D6 := [⟨1, 0, 0, 0, 0, 0, false⟩, ⟨2, 1, 0, 0, 0, 0, false⟩, ⟨3, 0, 0, 0, 0, 0, false⟩, ⟨4, 0, 0, 1, 0, 0, true⟩, ⟨2, 2, 1, 0, 0, 0, false⟩, ⟨2, 3, 0, 1, 0, 0, false⟩, ⟨2, 4, 0, 0, 1, 0, true⟩,
  ⟨4, 0, 0, 2, 0, 0, true⟩, ⟨2, 2, 2, 0, 0, 0, false⟩, ⟨2, 2, 3, 0, 1, 0, false⟩, ⟨2, 2, 4, 0, 0, 1, true⟩, ⟨2, 3, 0, 2, 0, 0, false⟩, ⟨2, 4, 0, 1, 2, 0, true⟩, ⟨2, 2, 3, 1, 2, 0, false⟩,
  ⟨2, 2, 4, 0, 1, 2, true⟩, ⟨2, 4, 0, 2, 2, 0, true⟩, ⟨2, 2, 3, 2, 2, 0, false⟩, ⟨2, 2, 4, 1, 2, 2, true⟩, ⟨2, 2, 4, 2, 2, 2, true⟩]
def getD (s : D6) (n : Nat) : Int := match n with
  | 0 => s.a
  | 1 => s.b
  | 2 => s.c
  | 3 => s.d
  | 4 => s.e
  | _ => s.f
def rk1 (x : Int) : Nat := if x = 0 then 0 else if x = 1 then 1 else 2
def rank (t : D6) : Nat := rk1 t.a + rk1 t.b + rk1 t.c + rk1 t.d + rk1 t.e + rk1 t.f
/-- The three ways on. -/
def ways (t : D6) : List (Option D6) := [stopOf t, replyOf t (waitsOf t).1 1, replyOf t (waitsOf t).1 2]
def vnext (s t : D6) : Option D6 :=
  let n := (waitsOf t).1.toNat
  let r := if getD s n = 4 then stopOf t else if getD s n = 3 then replyOf t (waitsOf t).1 2 else replyOf t (waitsOf t).1 1
  match r with
  | some u => if getD u n = getD s n then some u else none
  | none => none
def path (s : D6) : Nat → D6 → List D6
  | 0, t => [t]
  | k + 1, t => t :: (if t = s then [] else match vnext s t with
    | some u => path s k u
    | none => [])
def onPath (s t : D6) : Bool := decide (t ∈ path s 8 beginD)
theorem ways_ok : ∀ t ∈ RL, ∀ u ∈ ways t, ∀ v, u = some v → v ∈ RL ∧ rank t < rank v ∧ rank v ≤ 12 := by
  have h : (RL.all fun t => (ways t).all fun u => match u with
    | some v => decide (v ∈ RL) && decide (rank t < rank v) && decide (rank v ≤ 12)
    | none => true) = true := by decide +kernel
  intro t ht u hu v hv
  have h1 := List.all_eq_true.1 (List.all_eq_true.1 h t ht) u hu
  subst hv
  simpa [and_assoc] using h1
theorem reply_ok : ∀ t ∈ RL, (waitsOf t).2 = true → (replyOf t (waitsOf t).1 1).isSome = true := by
  have h : (RL.all fun t => !(waitsOf t).2 || (replyOf t (waitsOf t).1 1).isSome) = true := by decide +kernel
  intro t ht hw
  have h1 := List.all_eq_true.1 h t ht
  simpa [hw] using h1
/-- On its own path, a saga that is none at the end yet goes on. -/
theorem path_ok : ∀ s ∈ RL, ∀ t ∈ RL, onPath s t = true → t ≠ s → (waitsOf t).2 = true ∧ ∃ u, vnext s t = some u ∧ onPath s u = true := by
  have h : (RL.all fun s => RL.all fun t => !onPath s t || decide (t = s) || ((waitsOf t).2 && match vnext s t with
    | some u => onPath s u
    | none => false)) = true := by decide +kernel
  intro s hs t ht hp hn
  have h1 := List.all_eq_true.1 (List.all_eq_true.1 h s hs) t ht
  simp only [hp, hn, decide_false, Bool.not_true, Bool.false_or, Bool.or_eq_true, Bool.and_eq_true, Bool.false_eq_true, or_false, false_or] at h1
  refine ⟨h1.1, ?_⟩
  have h2 := h1.2
  split at h2
  · rename_i u hu; exact ⟨u, hu, h2⟩
  · cases h2
theorem start_ok : beginD ∈ RL ∧ ∀ s, onPath s beginD = true := by
  refine ⟨by decide +kernel, fun s => ?_⟩
  simp [onPath, path]
end Go.Proofs.YtlfphfklcifgpaaDoor

/-
  Lemmas on regions whose order the model draws, and on worlds that have only grown, over any program; conditions: none.
  Slices of flat structs, as lists of their cells: read, copied, appended to; conditions: none.
  Memory that a call has made for its own: read, written, kept through calls, over any program; conditions: none.
  What the program's types are: how many cells, their zero; conditions: none. (Printed by wip/mktypes.py.)
  sum e8ac60b809a0ea23f1fe1e01f62f671be8d5a689
-/
import Derived.WalkKit
import Derived.WalkLawsBesides
import Derived.WalkSpells
import Derived.Deep.Quiet
import Derived.Deep.QuietTactic
import Derived.BigQuiet
import Derived.Lib.Hide
import Derived.Laws.AppendOwnNone
import Derived.Deep.Slices
import Derived.ChangeSame
import Derived.Test.YtibabfedpdoofaaDoorProg
import Derived.KernelRfl
namespace Go
open Go.RowKit
namespace Own

/-- W, or x, where x is W grown (as W below block B). -/
noncomputable def later (W : World) (B : Nat) (x : World) : World := open Classical in if Below B W x then x else W

theorem later_below (W : World) (B : Nat) (x : World) : Below B W (later W B x) := by
  unfold later; split
  · assumption
  · exact Below.refl _ _
theorem later_of {W : World} {B : Nat} {x : World} (h : Below B W x) : x = later W B x := by
  unfold later; rw [if_pos h]
@[go_sem] theorem later_cell (W : World) (B : Nat) (x : World) (b o : Nat) (h : b < B) : (later W B x).cell? ⟨b, o, none⟩ = W.cell? ⟨b, o, none⟩ :=
  (later_below W B x).cell (p := ⟨b, o, none⟩) h
@[go_sem] theorem later_frozen (W : World) (B : Nat) (x : World) (b o : Nat) (h : b < B) : (later W B x).frozen? ⟨b, o, none⟩ = W.frozen? ⟨b, o, none⟩ :=
  (later_below W B x).frozen (p := ⟨b, o, none⟩) h
theorem later_heap (W : World) (B : Nat) (x : World) (b : Nat) (h : b < B) : (later W B x).heap[b]? = W.heap[b]? := (later_below W B x).block b h

theorem bcell {B : Nat} {W w1 : World} (hb : Below B W w1) : (∀ b o, b < B → w1.cell? ⟨b, o, none⟩ = W.cell? ⟨b, o, none⟩) ∧ (∀ b o, b < B → w1.frozen? ⟨b, o, none⟩ = W.frozen? ⟨b, o, none⟩) :=
  ⟨fun b o h => hb.cell (p := ⟨b, o, none⟩) h, fun b o h => hb.frozen (p := ⟨b, o, none⟩) h⟩

/-- A call in a region whose worlds are those that have grown. -/
theorem calls_later {P : Program} {f : FuncId} {args : Array Value} {W x : World} {B : Nat} {v : Value} (hB : B ≤ W.heap.size)
    (h : Calls P f args (later W B x) fun e w' => e = .returned v ∧ Below (later W B x).heap.size (later W B x) w') :
    Calls P f args (later W B x) fun e w'' => e = .returned v ∧ ∃ y, w'' = later W B y :=
  h.mono fun _ w' ⟨he, hw⟩ => ⟨he, w', later_of ((later_below W B x).trans (hw.mono (Nat.le_trans hB (later_below W B x).size)))⟩

section
variable {P : Program} {Q : Exit → Act → World → Prop}

/-- A region that draws its order, of reads and of calls that only make memory: one walk, in the order of the text. -/
theorem region_later {id : Nat} {a : Act} {w : World} {l : List Oper} (hm : P.follows .mixedOrders = true) (hB : Region.lexB .any l.toArray = true)
    (h : wpQuiet P l.toArray (fun w' => ∃ x, w' = later w w.heap.size x) (fun a' => ∀ w', Below w.heap.size w w' → Q .normal a' w') l a) :
    (Code.region id l.toArray true).wp P Q a w :=
  wp_region_quiet (C := fun w' => ∃ x, w' = later w w.heap.size x) hm hB ⟨_, later_of (Below.refl _ w).drew⟩ (by
    have e : (fun a' => ∀ w', Below w.heap.size w w' → Q .normal a' w') = (fun a' => ∀ w', (∃ x, w' = later w w.heap.size x) → Q .normal a' w') := by
      funext a'
      exact propext ⟨fun hh w' ⟨x, hx⟩ => hh w' (hx ▸ later_below _ _ _), fun hh w' hb => hh w' ⟨w', later_of hb⟩⟩
    rw [e] at h
    simpa using h)

/-! The same, with a tail of operations that come last in whatever order. -/

def waits (ops : Array Oper) (j i : Nat) : Bool := ((ops[j]?).map fun o => o.after.any fun e => Region.binds .any e && e.on == i).getD false
theorem waits_iff {ops : Array Oper} {j i : Nat} (h : waits ops j i = true) : ∃ o, ops[j]? = some o ∧ ∃ e ∈ o.after, Region.binds .any e = true ∧ e.on = i := by
  unfold waits at h
  cases ho : ops[j]? with
  | none => simp [ho] at h
  | some o =>
    simp only [ho, Option.map_some, Option.getD_some, Array.any_eq_true', Bool.and_eq_true, beq_iff_eq] at h
    exact ⟨o, rfl, h⟩
def backB (ops : Array Oper) : Bool := (List.range ops.size).all fun i => ((ops[i]?).map fun o => o.after.all fun e => !Region.binds .any e || decide (e.on < i)).getD true
theorem backB_spec {ops : Array Oper} (h : backB ops = true) {i : Nat} {o : Oper} (ho : ops[i]? = some o) {e : Edge} (he : e ∈ o.after) (hb : Region.binds .any e = true) : e.on < i := by
  have hi : i < ops.size := (Array.getElem?_eq_some_iff.1 ho).1
  have := List.all_eq_true.1 h i (List.mem_range.2 hi)
  simp only [ho, Option.map_some, Option.getD_some, Array.all_eq_true_iff_forall_mem] at this
  have := this e he
  simpa [hb] using this
def guardB (ops : Array Oper) (n : Nat) : Bool := (List.range n).all fun i => ((ops[i]?).map fun o => match o.guard with | none => true | some (j, _) => decide (j < n)).getD true
def tailB (ops : Array Oper) (n : Nat) : Bool :=
  decide (n ≤ ops.size) && backB ops && guardB ops n &&
  ((List.range n).all fun i => (List.range (n + 1)).any fun j => decide (i < j) && waits ops j i) &&
  ((List.range ops.size).all fun t => decide (t ≤ n) || waits ops t (t - 1))

/-- What has come up so far: nothing behind n; each with all that it waits for. -/
structure Inv (ops : Array Oper) (n : Nat) (listed : Array Bool) : Prop where
  size : listed.size = ops.size
  closed : ∀ j o, ops[j]? = some o → listed.getD j false = true → ∀ e ∈ o.after, Region.binds .any e = true → listed.getD e.on false = true
  tail : ∀ t, n ≤ t → listed.getD t false = false

theorem getD_ft {l : Array Bool} {i : Nat} (hi : i < l.size) : l.getD i false = l.getD i true := by simp [hi]

theorem not_ready {ops : Array Oper} {n : Nat} {listed : Array Bool} (inv : Inv ops n listed)
    (hs : ((List.range n).all fun i => (List.range (n + 1)).any fun j => decide (i < j) && waits ops j i) = true)
    (hc : ((List.range ops.size).all fun t => decide (t ≤ n) || waits ops t (t - 1)) = true) :
    ∀ d i, n - i = d → i < n → listed.getD i false = false → ∀ t, n ≤ t → t ∉ Region.ready .any ops listed := by
  intro d
  induction d using Nat.strongRecOn with
  | _ d ih =>
    intro i hd hi hun t ht hr
    obtain ⟨_, ot, hot, hall⟩ := mem_ready.1 hr
    have htlt : t < ops.size := (Array.getElem?_eq_some_iff.1 hot).1
    by_cases htn : t = n
    · have h1 := List.all_eq_true.1 hs i (List.mem_range.2 hi)
      obtain ⟨j, hj, hj2⟩ := List.any_eq_true.1 h1
      simp only [Bool.and_eq_true, decide_eq_true_eq] at hj2
      obtain ⟨o, ho, e, he, hb, hon⟩ := waits_iff hj2.2
      by_cases hjn : j = n
      · rw [htn] at hot
        rw [hjn, hot] at ho
        cases ho
        have := hall e he hb
        rw [hon, hun] at this; cases this
      · have hjlt : j < n := by have := List.mem_range.1 hj; omega
        cases hl : listed.getD j false with
        | true => have := inv.closed j o ho hl e he hb; rw [hon, hun] at this; cases this
        | false => exact ih (n - j) (by omega) j rfl hjlt hl t ht hr
    · have h1 := List.all_eq_true.1 hc t (List.mem_range.2 htlt)
      simp only [Bool.or_eq_true, decide_eq_true_eq] at h1
      rcases h1 with h1 | h1
      · omega
      · obtain ⟨o, ho, e, he, hb, hon⟩ := waits_iff h1
        rw [hot] at ho; cases ho
        have := hall e he hb
        rw [hon, inv.tail (t - 1) (by omega)] at this; cases this

theorem Inv.set {ops : Array Oper} {n i : Nat} {listed : Array Bool} (inv : Inv ops n listed) (hi : i ∈ Region.ready .any ops listed) (hin : i < n) : Inv ops n (listed.setIfInBounds i true) := by
  obtain ⟨_, oi, hoi, hall⟩ := mem_ready.1 hi
  refine ⟨by simp [inv.size], fun j o hj hl e he hb => ?_, fun t ht => ?_⟩
  · by_cases hij : i = j
    · subst hij; rw [hoi] at hj; cases hj; exact getD_set_true (hall e he hb)
    · rw [getD_set_ne false hij] at hl; exact getD_set_true (inv.closed j o hj hl e he hb)
  · rw [getD_set_ne false (by omega)]; exact inv.tail t ht

/-- The head's own operations, as a region. -/
def head (ops : Array Oper) (n : Nat) : Array Oper := (ops.toList.take n).toArray
theorem head_get {ops : Array Oper} {n i : Nat} (hi : i < n) : (head ops n)[i]? = ops[i]? := by
  simp [head, hi]
theorem head_size {ops : Array Oper} {n : Nat} (hn : n ≤ ops.size) : (head ops n).size = n := by simp [head]; omega

theorem wanted_head {ops : Array Oper} {n : Nat} (hg : guardB ops n = true) {i : Nat} (hi : i < n) {o : Oper} (ho : ops[i]? = some o) (tmps : Array Value) :
    Region.wanted o (yielded (head ops n) tmps) = Region.wanted o (yielded ops tmps) := by
  have h1 := List.all_eq_true.1 hg i (List.mem_range.2 hi)
  simp only [ho, Option.map_some, Option.getD_some] at h1
  unfold Region.wanted
  cases hgd : o.guard with
  | none => rfl
  | some g =>
    obtain ⟨j, want⟩ := g
    simp only [hgd, decide_eq_true_eq] at h1
    simp only [yielded, head_get h1]

/-- What is asked of the head's region: at its end, the tail; at every other exit what is asked of the whole. -/
def headQ (Q : Exit → Act → World → Prop) (R : Act → World → Prop) : Exit → Act → World → Prop
  | .normal, a, w => R a w
  | e, a, w => Q e a w

theorem upon_head {o : Oper} {a : Act} {K K' : Act → World → Prop} {R : Act → World → Prop} (hK : ∀ a w, K a w → K' a w) {r : Result Next}
    (h : o.upon P a K (headQ Q R) r) : o.upon P a K' Q r := by
  cases r with
  | ok n w' =>
    cases n <;> simp only [Oper.upon] at h ⊢ <;>
      first
        | exact hK _ _ h
        | exact Calls.mono h (fun e w'' he => by
            cases e with
            | returned v => exact hK _ _ he
            | panicked c => exact he
            | outgrown => obtain ⟨a', w', hq⟩ := he; exact ⟨a', w', hq⟩)
        | exact Rows.mono h (fun _ _ he => hK _ _ he)
  | halt x w' => cases x <;> simp only [Oper.upon] at h ⊢ <;> exact h

theorem wpOp_head {ops : Array Oper} {n i : Nat} (hg : guardB ops n = true) (hi : i < n) {a : Act} {w : World} {K K' : Act → World → Prop} {R : Act → World → Prop} (hK : ∀ a w, K a w → K' a w)
    (h : wpOp P (head ops n) (headQ Q R) i K a w) : wpOp P ops Q i K' a w := by
  unfold wpOp at *
  rw [head_get hi] at h
  cases ho : ops[i]? with
  | none => simp only [ho] at h ⊢; exact hK _ _ h
  | some o =>
    simp only [ho] at h ⊢
    rw [wanted_head hg hi ho] at h
    split
    · rename_i hw
      simp only [hw, if_true] at h
      rcases h with h | ⟨h1, a', w', h2⟩
      · exact .inl (by unfold Oper.wp at *; exact upon_head (R := R) hK h)
      · exact .inr ⟨h1, a', w', h2⟩
    · rename_i hw
      simp only [hw] at h
      exact hK _ _ h

/-- Which are listed, in the whole and in the head. -/
structure Alike (n : Nat) (listed listed' : Array Bool) : Prop where
  size : listed'.size = n
  same : ∀ i, i < n → listed'.getD i false = listed.getD i false

theorem ready_head {ops : Array Oper} {n i : Nat} {listed listed' : Array Bool} (hn : n ≤ ops.size) (hb : backB ops = true) (inv : Inv ops n listed) (al : Alike n listed listed') (hi : i < n) :
    i ∈ Region.ready .any ops listed ↔ i ∈ Region.ready .any (head ops n) listed' := by
  rw [mem_ready, mem_ready, head_get hi]
  have e1 : listed.getD i true = listed'.getD i true := by
    rw [← getD_ft (by rw [inv.size]; omega), ← getD_ft (by rw [al.size]; exact hi), al.same i hi]
  rw [e1]
  constructor
  · rintro ⟨h0, o, ho, hall⟩
    exact ⟨h0, o, ho, fun e he hbi => by have hlt := backB_spec hb ho he hbi; rw [al.same _ (by omega)]; exact hall e he hbi⟩
  · rintro ⟨h0, o, ho, hall⟩
    exact ⟨h0, o, ho, fun e he hbi => by have hlt := backB_spec hb ho he hbi; rw [← al.same _ (by omega)]; exact hall e he hbi⟩

theorem some_ready {ops : Array Oper} {n : Nat} {listed : Array Bool} (hn : n ≤ ops.size) (hb : backB ops = true) (inv : Inv ops n listed) :
    ∀ i, i < n → listed.getD i false = false → ∃ k, k ∈ Region.ready .any ops listed := by
  intro i
  induction i using Nat.strongRecOn with
  | _ i ih =>
    intro hi hun
    have hlt : i < ops.size := by omega
    by_cases hall : ∀ e ∈ ops[i].after, Region.binds .any e = true → listed.getD e.on false = true
    · exact ⟨i, mem_ready.2 ⟨by rw [← getD_ft (by rw [inv.size]; omega)]; exact hun, ops[i], by simp [hlt], hall⟩⟩
    · simp only [Classical.not_forall] at hall
      obtain ⟨e, he, hbi, hne⟩ := hall
      have hlt' := backB_spec hb (show ops[i]? = some ops[i] by simp [hlt]) he hbi
      exact ih e.on hlt' (by omega) (by simpa using hne)

/-- All of the head, nothing of the tail. -/
def allHead (m n : Nat) : Array Bool := ((List.range m).map fun i => decide (i < n)).toArray
theorem allHead_get (m n i : Nat) (hi : i < m) (d : Bool) : (allHead m n).getD i d = decide (i < n) := by simp [allHead, hi]

theorem whole_of_head {ops : Array Oper} {n g : Nat} (hn : n < ops.size) (hb : backB ops = true) (hg : guardB ops n = true)
    (hs : ((List.range n).all fun i => (List.range (n + 1)).any fun j => decide (i < j) && waits ops j i) = true)
    (hc : ((List.range ops.size).all fun t => decide (t ≤ n) || waits ops t (t - 1)) = true) :
    ∀ (f : Nat) (listed listed' : Array Bool) (a : Act) (w : World), Inv ops n listed → Alike n listed listed' →
      ((List.range n).filter fun i => !listed.getD i false).length = f →
      wpAny P .any (head ops n) (headQ Q (wpAny P .any ops Q g (allHead ops.size n))) f listed' a w → wpAny P .any ops Q (f + g) listed a w
  | 0, listed, listed', a, w, inv, al, hf, h => by
    rw [Nat.zero_add]
    have hall : ∀ i, i < n → listed.getD i false = true := fun i hi => by
      have := List.length_eq_zero_iff.1 hf
      cases hl : listed.getD i false with
      | true => rfl
      | false =>
        have hm : i ∈ (List.range n).filter fun i => !listed.getD i false := List.mem_filter.2 ⟨List.mem_range.2 hi, by rw [hl]; rfl⟩
        rw [this] at hm; cases hm
    have e : listed = allHead ops.size n := by
      apply Array.ext
      · simp [allHead, inv.size]
      · intro i h1 h2
        have hi : i < ops.size := by rw [← inv.size]; exact h1
        have e1 : listed.getD i false = listed[i] := by simp [h1]
        have e2 : (allHead ops.size n).getD i false = (allHead ops.size n)[i] := by simp [h2]
        rw [← e1, ← e2, allHead_get _ _ _ hi]
        by_cases hin : i < n
        · rw [hall i hin]; simp [hin]
        · rw [inv.tail i (by omega)]; simp [hin]
    rw [e]
    exact h.2
  | f + 1, listed, listed', a, w, inv, al, hf, h => by
    rw [show f + 1 + g = (f + g) + 1 by omega]
    have hun : ∃ i, i < n ∧ listed.getD i false = false := by
      cases hl : (List.range n).filter fun i => !listed.getD i false with
      | nil => rw [hl] at hf; cases hf
      | cons i r =>
        have : i ∈ (List.range n).filter fun i => !listed.getD i false := by rw [hl]; exact List.mem_cons_self
        obtain ⟨h1, h2⟩ := List.mem_filter.1 this
        exact ⟨i, List.mem_range.1 h1, by simpa using h2⟩
    obtain ⟨i0, hi0, hun0⟩ := hun
    refine ⟨fun h0 => ?_, fun i hi => ?_⟩
    · obtain ⟨k, hk⟩ := some_ready (by omega) hb inv i0 hi0 hun0
      rw [h0] at hk; cases hk
    · have hin : i < n := by
        rcases Nat.lt_or_ge i n with h' | h'
        · exact h'
        · exact absurd hi (not_ready inv hs hc _ i0 rfl hi0 hun0 i h')
      have hi' := (ready_head (by omega) hb inv al hin).1 hi
      refine wpOp_head hg hin (fun a' w' hr => ?_) (h.2 i hi')
      refine whole_of_head hn hb hg hs hc f (listed.setIfInBounds i true) (listed'.setIfInBounds i true) a' w' (inv.set hi hin) ⟨by simp [al.size], fun j hj => ?_⟩ ?_ hr
      · by_cases hij : i = j
        · subst hij
          have h1 : i < listed.size := by rw [inv.size]; omega
          have h2 : i < listed'.size := by rw [al.size]; omega
          simp [h1, h2]
        · rw [getD_set_ne false hij, getD_set_ne false hij]; exact al.same j hj
      · have hiun : listed.getD i false = false := by
          have := (mem_ready.1 hi).1
          rw [← getD_ft (by rw [inv.size]; omega)] at this
          exact this
        have hkey : ∀ l : List Nat, l.Nodup → (∀ x ∈ l, x < listed.size) → (l.filter fun k => !(listed.setIfInBounds i true).getD k false).length + (if i ∈ l then 1 else 0) = (l.filter fun k => !listed.getD k false).length := by
          intro l
          induction l with
          | nil => intro _ _; simp
          | cons x l ih =>
            intro hnd hlt
            have hnd' := List.nodup_cons.1 hnd
            have := ih hnd'.2 (fun y hy => hlt y (List.mem_cons_of_mem _ hy))
            by_cases hx : x = i
            · subst hx
              have h1 : x < listed.size := hlt x List.mem_cons_self
              have e1 : (listed.setIfInBounds x true).getD x false = true := by simp [h1]
              rw [if_neg hnd'.1] at this
              rw [List.filter_cons, List.filter_cons, e1, hiun]
              simp only [Bool.not_true, Bool.false_eq_true, if_false, Bool.not_false, if_true, List.length_cons, List.mem_cons, true_or]
              omega
            · have hne : i ≠ x := fun e => hx e.symm
              rw [List.filter_cons, List.filter_cons, getD_set_ne false hne]
              simp only [List.mem_cons, hne, false_or]
              by_cases hl : listed.getD x false = true
              · rw [hl]; simp only [Bool.not_true, Bool.false_eq_true, if_false]; exact this
              · have hl' : listed.getD x false = false := by simpa using hl
                rw [hl']; simp only [Bool.not_false, if_true, List.length_cons]; omega
        have := hkey (List.range n) List.nodup_range (fun x hx => by rw [inv.size]; have := List.mem_range.1 hx; omega)
        rw [if_pos (List.mem_range.2 hin), hf] at this
        omega

theorem rep_get (m i : Nat) : (Array.replicate m false).getD i false = false := by
  rcases Nat.lt_or_ge i m with h | h <;> simp [h]

/-- The tail, one behind the other. -/
theorem tail_run {ops : Array Oper} {n : Nat} (hb : backB ops = true) (hc : ((List.range ops.size).all fun t => decide (t ≤ n) || waits ops t (t - 1)) = true) :
    ∀ (l : List Oper) (k : Nat) (a : Act) (w : World), n ≤ k → (∀ j, l[j]? = ops[k + j]?) → wpList P ops Q l a w → wpAny P .any ops Q l.length (allHead ops.size k) a w
  | [], k, a, w, hk, hl, h => by
    have hge : ops.size ≤ k := by
      have := hl 0
      rcases Nat.lt_or_ge k ops.size with h' | h'
      · simp [h'] at this
      · exact h'
    refine ⟨?_, h⟩
    apply List.eq_nil_iff_forall_not_mem.2
    intro i hi
    obtain ⟨h0, o, ho, _⟩ := mem_ready.1 hi
    have hi' : i < ops.size := (Array.getElem?_eq_some_iff.1 ho).1
    rw [allHead_get _ _ _ hi'] at h0
    simp at h0; omega
  | o :: l, k, a, w, hk, hl, h => by
    have h0 : ops[k]? = some o := by simpa using (hl 0).symm
    have hlt : k < ops.size := (Array.getElem?_eq_some_iff.1 h0).1
    have hready : ∀ i, i ∈ Region.ready .any ops (allHead ops.size k) → i = k := by
      intro i hi
      obtain ⟨h1, oi, hoi, hall⟩ := mem_ready.1 hi
      have hi' : i < ops.size := (Array.getElem?_eq_some_iff.1 hoi).1
      rw [allHead_get _ _ _ hi'] at h1
      have hge : k ≤ i := by simpa using h1
      rcases Nat.lt_or_ge k i with hki | hki
      · have h2 := List.all_eq_true.1 hc i (List.mem_range.2 hi')
        simp only [Bool.or_eq_true, decide_eq_true_eq] at h2
        rcases h2 with h2 | h2
        · omega
        · obtain ⟨o', ho', e, he, hbi, hon⟩ := waits_iff h2
          rw [hoi] at ho'; cases ho'
          have := hall e he hbi
          rw [hon, allHead_get _ _ _ (by omega)] at this
          simp at this; omega
      · omega
    have hk' : k ∈ Region.ready .any ops (allHead ops.size k) := mem_ready.2 ⟨by rw [allHead_get _ _ _ hlt]; simp, o, h0, fun e he hbi => by
      have := backB_spec hb h0 he hbi
      rw [allHead_get _ _ _ (by omega)]; simpa using this⟩
    refine ⟨fun h1 => (by rw [h1] at hk'; cases hk'), fun i hi => ?_⟩
    obtain rfl := hready i hi
    have hw : wpOp P ops Q i (wpList P ops Q l) a w := by unfold wpOp; simp only [h0]; exact h
    refine wpOp_mono (fun a' w' h' => ?_) hw
    have hset : (allHead ops.size i).setIfInBounds i true = allHead ops.size (i + 1) := by
      apply Array.ext
      · simp [allHead]
      · intro j h1 h2
        have hj : j < ops.size := by simpa [allHead] using h2
        by_cases hji : i = j
        · subst hji; simp [allHead]
        · have e : (j < i) = (j < i + 1) := by apply propext; omega
          rw [Array.getElem_setIfInBounds_ne (by simpa using h1) hji]
          simp [allHead, e]
    rw [hset]
    exact tail_run hb hc l (i + 1) a' w' (by omega) (fun j => by have := hl (j + 1); simpa [Nat.add_assoc, Nat.add_comm 1 j] using this) h'

/-- A region that draws its order: its first n operations read, or call what only makes memory; the others come behind all of these, in the order of the text. -/
theorem region_later_tail {id : Nat} {a : Act} {w : World} {l : List Oper} (n : Nat) (hm : P.follows .mixedOrders = true) (hB : Region.lexB .any (l.take n).toArray = true) (hT : tailB l.toArray n = true) (hn : n < l.length)
    (h : wpQuiet P (l.take n).toArray (fun w' => ∃ x, w' = later w w.heap.size x) (fun a' => ∀ w', Below w.heap.size w w' → wpList P l.toArray Q (l.drop n) a' w') (l.take n) a) :
    (Code.region id l.toArray true).wp P Q a w := by
  simp only [tailB, Bool.and_eq_true, decide_eq_true_eq] at hT
  obtain ⟨⟨⟨⟨_, hb⟩, hg⟩, hs⟩, hc⟩ := hT
  have hn' : n < l.toArray.size := by simpa using hn
  simp only [Region.lexB, Bool.and_eq_true] at hB
  have ehead : head l.toArray n = (l.take n).toArray := rfl
  have hsz : (l.take n).toArray.size = n := by simp; omega
  refine wp_region_any hm ?_
  have H1 := wpAnyQ_lex (C := fun w' => ∃ x, w' = later w w.heap.size x) (md := .any) (P := P) hB.1 (l.take n) 0 (Array.replicate (l.take n).toArray.size false) a (by simp) (by simpa using hB.2) h
  have H2 := wpAny_of_quiet (P := P) (Q := fun a' => ∀ w', Below w.heap.size w w' → wpList P l.toArray Q (l.drop n) a' w') (Q' := headQ Q (wpAny P .any l.toArray Q (l.drop n).length (allHead l.toArray.size n))) (fun a' w' hw' hq => by
      show wpAny P .any l.toArray Q (l.drop n).length (allHead l.toArray.size n) a' w'
      exact tail_run hb hc (l.drop n) n a' w' (Nat.le_refl _) (fun j => by simp [List.getElem?_drop]) (hq w' (by obtain ⟨x, rfl⟩ := hw'; exact later_below _ _ _))) _ _ _ { w with drawn := w.drawn + 1 } ⟨_, later_of (Below.refl _ w).drew⟩ H1
  have hlen : (l.take n).length = n := by simp; omega
  have H3 := whole_of_head (P := P) (Q := Q) (g := (l.drop n).length) hn' hb hg hs hc n (Array.replicate l.toArray.size false) (Array.replicate (l.take n).toArray.size false) a { w with drawn := w.drawn + 1 }
    ⟨by simp, fun _ _ _ hl => absurd (hl.symm.trans (rep_get _ _)) (by decide), fun _ _ => rep_get _ _⟩
    ⟨by simp; omega, fun i _ => (rep_get _ _).trans (rep_get _ _).symm⟩
    (by
      have : ((List.range n).filter fun i => !(Array.replicate l.toArray.size false).getD i false) = List.range n := List.filter_eq_self.2 fun i _ => by rw [rep_get]; rfl
      rw [this]; simp)
    (by rw [ehead]; rw [hlen] at H2; exact H2)
  rw [show n + (l.drop n).length = l.toArray.size by simp; omega] at H3
  exact H3
end
end Own
end Go

namespace Go
open Go.RowKit
namespace Own
section
variable {P : Program} {Q : Exit → Act → World → Prop}

/-- append of one element, whose cells the call has just laid, onto a slice that the call made. -/
theorem wpList_push {ops : Array Oper} {rest : List Oper} {o : Oper} {a : Act} {wr W0 : World} {s x : Operand} {t : TypeId} {base e : Nat} {z v : Value} {size bytes n : Nat} {xs news : List Value}
    (hgd : o.guard = none) (ho : o.op = .call { callee := .builtin .append, args := #[s, x], argTypes := #[t, t] })
    (ht : P.underlying t = some (.slice e)) (info : (P.info? e).map (fun i => (i.zero, i.size, i.bytes)) = some (some z, size, bytes)) (hzs : z.cells.size = size) (hsz : 0 < size)
    (hown : wr.ownsRow base e size v n xs) (hB : Below base W0 wr) (hbase : base ≤ wr.heap.size)
    (hs : a.eval s = v) (hx : a.eval x = .slice (some ⟨wr.heap.size, 0, none⟩) 1 1) (hl : news.length = size) (h1 : news.all (·.oneCell') = true)
    (h63 : n + 1 ≤ maxLen) (hbytes : (n + 1) * bytes ≤ 140737488355328)
    (h : ∀ v' w', w'.ownsRow base e size v' (n + 1) (xs ++ news) → Below base W0 w' → v' ≠ .slice none 0 0 → wpList P ops Q rest (a.put o.dst v') w') :
    wpList P ops Q (o :: rest) a (wr.alloc (.cells news.toArray e)) := by
  cases hi : P.info? e with
  | none => rw [hi] at info; cases info
  | some i =>
    rw [hi] at info
    simp only [Option.map_some, Option.some.injEq, Prod.mk.injEq] at info
    obtain ⟨hz, hsize, hby⟩ := info
    have hsz2 : (wr.alloc (.cells news.toArray e)).heap.size = wr.heap.size + 1 := by simp
    refine wpList_append_own _ hgd s x t ho base e i z size bytes ht hi hz hsize hby hzs hsz v n xs hs (hown.alloc _) ⟨wr.heap.size, 0, none⟩ 1 1 news hx (by omega) ?_ (fun u hu => List.all_eq_true.1 h1 u hu) h63 hbytes (by omega) ?_
    · intro j u hu
      have hadd : (⟨wr.heap.size, 0, none⟩ : Addr).add j = ⟨wr.heap.size, j, none⟩ := by unfold Addr.add; split <;> simp_all
      rw [hadd]
      have := cell_of_row (wr.alloc (.cells news.toArray e)) wr.heap.size j news.toArray e (0, 0) (heap_alloc_new wr _)
      rw [this]; simpa using hu
    · intro v' w' h2 h3 h4
      refine h v' w' h2 ((hB.alloc hbase _).grown h3 (by omega) (fun k hk => (hown.lt k hk).1)) (fun e => ?_)
      have := (h4.1 e).2
      omega

def byteVals (l : List UInt8) : List Value := l.map fun c => .int .u8 (c.toNat : Int)

/-- string(b), b a slice of bytes that the call made. -/
theorem run_string_owned {w : World} {base e src dst : Nat} {v : Value} {l : List UInt8} (hs : P.underlying src = some (.slice e)) (he : P.underlying e = some (.int .u8)) (hd : P.underlying dst = some .string)
    (hown : w.ownsRow base e 1 v l.length (byteVals l)) (hnn : v ≠ .slice none 0 0) : (convert src dst v).run P w = .ok (.string ⟨l.toArray⟩) w := by
  have hc := @World.ownsRow.cells w base e 1 v l.length (byteVals l) hown
  rcases hown.2 with ⟨h1, _⟩ | ⟨g, cap, cur, rfl, _, hh, _⟩
  · exact absurd h1 hnn
  · refine run_convert_bytes_back w src dst e ⟨g, 0, none⟩ cap l hs he hd ?_
    intro j hj
    exact hc rfl j _ (by simp [byteVals, hj])
end
end Own
end Go

namespace Go.Own
theorem ret_bool {a b : Bool} (h : a = b) : Ending.returned (.bool a) = .returned (.bool b) := by rw [h]
theorem ret_int {k : IntKind} {a b : Int} (h : a = b) : Ending.returned (.int k a) = .returned (.int k b) := by rw [h]
theorem ret_str {a b : ByteArray} (h : a = b) : Ending.returned (.string a) = .returned (.string b) := by rw [h]
theorem ret_list {a b : List UInt8} (h : a = b) : Ending.returned (.string ⟨a.toArray⟩) = .returned (.string ⟨b.toArray⟩) := by rw [h]
end Go.Own
namespace Go.Own
@[go_sem] theorem ba_get (l : List UInt8) (i : Nat) (h : i < (ByteArray.mk l.toArray).size) : (ByteArray.mk l.toArray)[i]'h = l[i]'(by simpa [ByteArray.size] using h) := rfl
theorem below_drewN {B : Nat} {a w : World} (h : Go.RowKit.Below B a w) (n : Nat) : Go.RowKit.Below B a (w.drewN n) := ⟨h.os, h.tape, h.output, h.size, h.block⟩
@[go_sem] theorem ba_append (a b : List UInt8) : (ByteArray.mk a.toArray) ++ (ByteArray.mk b.toArray) = ⟨(a ++ b).toArray⟩ := by
  apply ByteArray.ext
  simp
/-- s[i:], in lists. -/
@[go_sem] theorem extract_from (l : List UInt8) (i j : Nat) (h : l.length ≤ j) : (ByteArray.mk l.toArray).extract i j = ⟨(l.drop i).toArray⟩ := by
  apply ByteArray.ext
  simp [ByteArray.data_extract]
  rw [List.take_of_length_le (by simp; omega)]
@[go_sem] theorem extract_to (l : List UInt8) (j : Nat) : (ByteArray.mk l.toArray).extract 0 j = ⟨(l.take j).toArray⟩ := by
  apply ByteArray.ext
  simp [ByteArray.data_extract]
end Go.Own
namespace Go.Own
def slowString (P : Program) (src dst : TypeId) (a : Addr) (cap : Nat) (w : World) : Result Value := (convert src dst (.slice (some a) 1 cap)).run P w
/-- string(b), b a slice of one byte. -/
theorem run_string_one {P : Program} {src dst e : TypeId} (hs : P.underlying src = some (.slice e)) (he : P.underlying e = some (.int .u8)) (hd : P.underlying dst = some .string) (w : World) (a : Addr) (cap : Nat) :
    (convert src dst (.slice (some a) 1 cap)).run P w = match w.cell? a with
      | some (.int .u8 c) => .ok (.string ⟨[UInt8.ofNat c.toNat].toArray⟩) w
      | _ => slowString P src dst a cap w := by
  split
  · rename_i c h
    rw [run_convert_bytes_string w src dst e (some a) 1 cap hs he hd]
    have hl := run_loadCells_list (P := P) w a [.int .u8 c] (fun j v hj => by
      cases j with
      | zero => simp at hj; subst hj; simpa [Addr.add] using h
      | succ j => simp at hj)
    rw [run_bytesToString w a 1 cap [c] hl]
    rfl
  · rfl
end Go.Own
namespace Go.Own
open Go.RowKit

theorem lAdd (a : Addr) (m k : Nat) : a.add (m + k) = (a.add m).add k := by
  unfold Addr.add
  by_cases hm : m = 0
  · subst hm; simp
  · by_cases hk : k = 0
    · subst hk; simp [hm]
    · simp [hm, hk, Nat.add_assoc]
theorem lAdd1 (c : Addr) (k : Nat) : c.add (k + 1) = ⟨c.block, c.off + (k + 1), none⟩ := by simp [Addr.add]
theorem lBlock (a : Addr) (n : Nat) : (a.add n).block = a.block := by unfold Addr.add; split <;> rfl

/-- Structs of k cells lie in memory, one behind the other, from a on. -/
structure LAt (w : World) (a : Addr) (k : Nat) (L : List (List Value)) : Prop where
  lt : a.block < w.heap.size
  c : ∀ i (h : i < L.length) j v, L[i][j]? = some v → w.cell? ((a.add (i * k)).add j) = some v
theorem LAt.below {B k : Nat} {w w' : World} {a : Addr} {L : List (List Value)} (h : LAt w a k L) (hb : Below B w w') (hB : a.block < B) : LAt w' a k L := by
  have hs := hb.size
  have hl := h.lt
  refine ⟨by omega, fun i hi j v hv => ?_⟩
  rw [← h.c i hi j v hv]
  exact World.cell?_of_block (w := w) (hb.block _ (by rw [lBlock, lBlock]; exact hB))
theorem LAt.lt' {w : World} {a : Addr} {k : Nat} {L : List (List Value)} (h : LAt w a k L) (n : Nat) : (a.add n).block < w.heap.size := by rw [lBlock]; exact h.lt
theorem LAt.c0 {w : World} {a : Addr} {k : Nat} {L : List (List Value)} (h : LAt w a k L) (i : Nat) (hi : i < L.length) (v : Value) (hv : L[i][0]? = some v) : w.cell? (a.add (i * k)) = some v := by
  have := h.c i hi 0 v hv
  rwa [show ∀ c : Addr, c.add 0 = c from fun c => by simp [Addr.add]] at this
theorem LAt.cj {w : World} {a : Addr} {k : Nat} {L : List (List Value)} (h : LAt w a k L) (i : Nat) (hi : i < L.length) (j : Nat) (v : Value) (hv : L[i][j + 1]? = some v) : w.cell? ⟨(a.add (i * k)).block, (a.add (i * k)).off + (j + 1), none⟩ = some v := by
  have := h.c i hi (j + 1) v hv
  rwa [lAdd1] at this

/-- A slice of structs: none, or some that lie in memory. -/
inductive IsL (w : World) (k : Nat) : Value → List (List Value) → Prop
  | none (sp : Option Addr) (sc : Nat) (hn : sp = Option.none → sc = 0) : IsL w k (.slice sp 0 sc) []
  | some (a : Addr) (cap : Nat) (L : List (List Value)) (hlen : L.length ≤ cap) (hcap : cap ≤ maxLen) (h0 : 0 < L.length) (h : LAt w a k L) : IsL w k (.slice (some a) L.length cap) L
def VL (v : Value) (B : Nat) : Prop := ∀ a n c, v = .slice (some a) n c → 0 < n → a.block < B
theorem IsL.lt {w : World} {k : Nat} {v : Value} {L : List (List Value)} (h : IsL w k v L) : VL v w.heap.size := by
  intro a n c e hn
  cases h with
  | none sp sc hn' => cases e; omega
  | some a' cap L hlen hcap h0 h => cases e; exact h.lt
theorem IsL.below {B k : Nat} {w w' : World} {v : Value} {L : List (List Value)} (h : IsL w k v L) (hb : Below B w w') (hB : VL v B) : IsL w' k v L := by
  cases h with
  | none sp sc hn => exact .none sp sc hn
  | some a cap L hlen hcap h0 h => exact .some a cap L hlen hcap h0 (h.below hb (hB a _ _ rfl h0))
theorem IsL.slice {w : World} {k : Nat} {v : Value} {L : List (List Value)} (h : IsL w k v L) : ∃ p c, v = .slice p L.length c ∧ L.length ≤ maxLen := by
  cases h with
  | none sp sc hn => exact ⟨_, _, rfl, by simp⟩
  | some a cap L hlen hcap h0 h => exact ⟨_, _, rfl, by omega⟩
theorem IsL.at {w : World} {k : Nat} {v : Value} {L : List (List Value)} (h : IsL w k v L) (hn : 0 < L.length) : ∃ a cap, v = .slice (Option.some a) L.length cap ∧ L.length ≤ cap ∧ cap ≤ maxLen ∧ LAt w a k L := by
  cases h with
  | none sp sc _ => simp at hn
  | some a cap L hlen hcap h0 h => exact ⟨a, cap, rfl, hlen, hcap, h⟩

theorem flatL_len {k : Nat} : ∀ {L : List (List Value)}, (∀ l ∈ L, l.length = k) → L.flatten.length = L.length * k
  | [], _ => by simp
  | l :: L, h => by
    rw [List.flatten_cons, List.length_append, flatL_len (fun x hx => h x (List.mem_cons_of_mem _ hx)), h l List.mem_cons_self, List.length_cons, Nat.add_mul]
    omega
theorem flatL_get {k : Nat} : ∀ {L : List (List Value)}, (∀ l ∈ L, l.length = k) → ∀ i (hi : i < L.length) j, j < k → L.flatten[i * k + j]? = L[i][j]?
  | l :: L, h, 0, _, j, hj => by
    have hl := h l List.mem_cons_self
    rw [List.flatten_cons, Nat.zero_mul, Nat.zero_add, List.getElem?_append_left (by omega)]
    rfl
  | l :: L, h, i + 1, hi, j, hj => by
    have hl := h l List.mem_cons_self
    have hk : (i + 1) * k = i * k + k := Nat.succ_mul i k
    rw [List.flatten_cons, List.getElem?_append_right (by omega), hl, show (i + 1) * k + j - k = i * k + j by omega]
    exact flatL_get (fun x hx => h x (List.mem_cons_of_mem _ hx)) i (by simpa using hi) j hj
/-- What a slice of the call's own reads as. -/
theorem isL_of_owns {w : World} {base k : Nat} {e : TypeId} {v : Value} {L : List (List Value)} (hL : ∀ l ∈ L, l.length = k) (h : w.ownsRow base e k v L.length L.flatten) : IsL w k v L := by
  have hc := @World.ownsRow.cells w base e k v L.length L.flatten h
  rcases h.2 with ⟨rfl, h0⟩ | ⟨g, cap, cur, rfl, _, hh, h1, h2, _⟩
  · have : L = [] := by simpa using h0
    subst this
    exact .none _ _ (fun _ => rfl)
  · by_cases hz : L = []
    · subst hz; exact .none _ _ (fun e => by cases e)
    refine .some ⟨g, 0, none⟩ cap L h1 h2 (by cases L <;> simp_all) ⟨lt_of_block hh, fun i hi j u hu => ?_⟩
    have hj : j < k := by
      have := (List.getElem?_eq_some_iff.1 hu).1
      rwa [hL _ (List.getElem_mem hi)] at this
    have := hc rfl (i * k + j) u (by rw [flatL_get hL i hi j hj]; exact hu)
    rwa [lAdd] at this
theorem LAt.flat {w : World} {a : Addr} {k : Nat} {L : List (List Value)} (h : LAt w a k L) (hL : ∀ l ∈ L, l.length = k) (hk : 0 < k) : ∀ j u, L.flatten[j]? = some u → w.cell? (a.add j) = some u := by
  intro j u hu
  have hj : j < L.length * k := by
    have := (List.getElem?_eq_some_iff.1 hu).1
    rwa [flatL_len hL] at this
  have hi : j / k < L.length := Nat.div_lt_of_lt_mul (by rwa [Nat.mul_comm] at hj)
  have e : j = j / k * k + j % k := by rw [Nat.mul_comm]; exact (Nat.div_add_mod j k).symm
  rw [e, flatL_get hL (j / k) hi (j % k) (Nat.mod_lt _ hk)] at hu
  rw [e, lAdd]
  exact h.c _ hi _ _ hu
/-- append([]T(nil), l...): a copy. -/
theorem wpList_copyL {P : Program} {ops : Array Oper} {rest : List Oper} {o : Oper} {a : Act} {w : World} {Q : Exit → Act → World → Prop} {v z : Value} {L : List (List Value)} {t e : TypeId} {k bytes : Nat}
    (ht : P.underlying t = some (.slice e)) (info : (P.info? e).map (fun i => (i.zero, i.size, i.bytes)) = some (some z, k, bytes)) (hzs : z.cells.size = k) (hk : 0 < k)
    (hgd : o.guard = none) (x : Operand) (ho : o.op = .call { callee := .builtin .append, args := #[.const (.slice none 0 0), x], argTypes := #[t, t] }) (hx : a.eval x = v) (hv : IsL w k v L)
    (hL : ∀ l ∈ L, l.length = k) (h1 : ∀ l ∈ L, ∀ u ∈ l, u.oneCell' = true) (hl : L.length ≤ 1000000) (hby : bytes ≤ 1000000)
    (h : ∀ v' w', w'.ownsRow w.heap.size e k v' L.length L.flatten → Below w.heap.size w w' → wpList P ops Q rest (a.put o.dst v') w') : wpList P ops Q (o :: rest) a w := by
  cases hi : P.info? e with
  | none => rw [hi] at info; cases info
  | some i0 =>
  rw [hi] at info
  simp only [Option.map_some, Option.some.injEq, Prod.mk.injEq] at info
  obtain ⟨hz0, hz1, hz2⟩ := info
  have hbb : (0 + L.length) * bytes ≤ 140737488355328 := by
    have := Nat.mul_le_mul hl hby
    rw [Nat.zero_add]
    omega
  cases hv with
  | none sp sc hn =>
    cases sp with
    | some ad =>
      refine wpList_append_own w hgd _ x t ho w.heap.size e i0 _ k bytes ht hi hz0 hz1 hz2 hzs hk (.slice none 0 0) 0 [] rfl (World.ownsRow_nil _ _ _ _) ad 0 sc [] hx (by simp) (fun j u hu => by simp at hu) (fun u hu => by simp at hu) (by unfold maxLen; omega) (by simp) (Nat.le_refl _) ?_
      intro v' w' h2 h3 _
      exact h v' w' (by simpa using h2) (Below.grown (Below.refl _ _) h3 (Nat.le_refl _) (fun k hk => by simp [Value.ownBlock] at hk))
    | none =>
      obtain rfl := hn rfl
      refine wpList_append_own_none hgd _ x t ho w.heap.size e i0 k ht hi (.slice none 0 0) 0 [] rfl (World.ownsRow_nil _ _ _ _) hx ?_
      exact h _ _ (World.ownsRow_nil _ _ _ _) (Below.refl _ _)
  | some ad cap L hlen hcap h0 hR =>
    refine wpList_append_own w hgd _ x t ho w.heap.size e i0 _ k bytes ht hi hz0 hz1 hz2 hzs hk (.slice none 0 0) 0 [] rfl (World.ownsRow_nil _ _ _ _) ad L.length cap L.flatten hx (flatL_len hL) (hR.flat hL hk) ?_ (by unfold maxLen; omega) hbb (Nat.le_refl _) ?_
    · intro u hu
      obtain ⟨l, hl1, hl2⟩ := List.mem_flatten.1 hu
      exact h1 l hl1 u hl2
    · intro v' w' h2 h3 _
      refine h v' w' (by simpa using h2) ?_
      exact Below.grown (Below.refl _ _) h3 (Nat.le_refl _) (fun k hk => by simp [Value.ownBlock] at hk)
theorem ownsL_below {W W' : World} {B base e size n : Nat} {v : Value} {xs : List Value} (h : W.ownsRow base e size v n xs) (hb : Below B W W') (hB : W.heap.size ≤ B) : W'.ownsRow base e size v n xs := by
  refine ⟨h.1, ?_⟩
  rcases h.2 with h0 | ⟨g, cap, cur, hv, hg, hh, rest⟩
  · exact .inl h0
  · have hlt := lt_of_block hh
    exact .inr ⟨g, cap, cur, hv, hg, by rw [hb.block g (by omega)]; exact hh, rest⟩
theorem sliceL_of_owns {w : World} {base e size n : Nat} {v : Value} {xs : List Value} (h : w.ownsRow base e size v n xs) : ∃ g c, v = .slice g n c := by
  rcases h.2 with ⟨rfl, rfl⟩ | ⟨g, cap, cur, rfl, _⟩
  · exact ⟨_, _, rfl⟩
  · exact ⟨_, _, rfl⟩
theorem bcellL {B : Nat} {w w' : World} (h : Below B w w') : ∀ c : Addr, c.block < B → w'.cell? c = w.cell? c := fun c hc => h.cell (p := c) hc
@[go_sem] theorem laterL_cell (W : World) (B : Nat) (x : World) (c : Addr) (h : c.block < B) : (later W B x).cell? c = W.cell? c := (later_below W B x).cell (p := c) h
@[go_sem] theorem allocL_cell (w : World) (o : Obj) (c : Addr) (h : c.block < w.heap.size) : (w.alloc o).cell? c = w.cell? c := ((Below.refl w.heap.size w).alloc (Nat.le_refl _) o).cell (p := c) h
end Go.Own
namespace Go
open Go.RowKit
namespace Own

/-- A piece of memory: its blocks, and what is known of it. -/
structure Ent where
  bs : List Nat
  F : World → Prop
/-- What is known of it hangs on its blocks alone. -/
def Ent.Ok (e : Ent) : Prop := ∀ w w' : World, (∀ b ∈ e.bs, w'.heap[b]? = w.heap[b]?) → e.F w → e.F w'
def Ent.Lt (e : Ent) : Prop := ∀ w : World, e.F w → ∀ b ∈ e.bs, b < w.heap.size
/-- Memory of the call's own: W, the world when it began, has not changed; the pieces L are its own, apart. -/
structure Own (W w : World) (L : List Ent) : Prop where
  grown : Below W.heap.size W w
  has : ∀ e ∈ L, e.F w
  ok : ∀ e ∈ L, e.Ok
  lt : ∀ e ∈ L, ∀ b ∈ e.bs, b < w.heap.size
  new : ∀ e ∈ L, ∀ b ∈ e.bs, W.heap.size ≤ b
  apart : L.Pairwise fun e f => ∀ b ∈ e.bs, b ∉ f.bs

/-- L with x in the place of y is L'. -/
inductive At {α : Type} (x y : α) : List α → List α → Prop
  | head (l : List α) : At x y (x :: l) (y :: l)
  | tail (z : α) (l l' : List α) (h : At x y l l') : At x y (z :: l) (z :: l')
theorem At.mem {α : Type} {x y : α} : ∀ {l l' : List α}, At x y l l' → x ∈ l
  | _, _, .head _ => List.mem_cons_self
  | _, _, .tail _ _ _ h => List.mem_cons_of_mem _ h.mem
theorem At.memY {α : Type} {x y : α} : ∀ {l l' : List α}, At x y l l' → y ∈ l'
  | _, _, .head _ => List.mem_cons_self
  | _, _, .tail _ _ _ h => List.mem_cons_of_mem _ h.memY
theorem At.mem' {α : Type} {x y : α} : ∀ {l l' : List α}, At x y l l' → ∀ p ∈ l', p = y ∨ p ∈ l
  | _, _, .head _, p, hp => by
    rcases List.mem_cons.1 hp with h | h
    · exact .inl h
    · exact .inr (List.mem_cons_of_mem _ h)
  | _, _, .tail z l l' h, p, hp => by
    rcases List.mem_cons.1 hp with e | e
    · exact .inr (e ▸ List.mem_cons_self)
    · rcases h.mem' p e with e | e
      · exact .inl e
      · exact .inr (List.mem_cons_of_mem _ e)
/-- The others are apart from the one that has turned. -/
theorem At.others {x y : Ent} : ∀ {l l' : List Ent}, At x y l l' → l.Pairwise (fun e f => ∀ b ∈ e.bs, b ∉ f.bs) → ∀ p ∈ l', p = y ∨ (p ∈ l ∧ ∀ b ∈ p.bs, b ∉ x.bs)
  | _, _, .head l, hn, p, hp => by
    rcases List.mem_cons.1 hp with h | h
    · exact .inl h
    · exact .inr ⟨List.mem_cons_of_mem _ h, fun b hb hx => (List.pairwise_cons.1 hn).1 p h b hx hb⟩
  | _, _, .tail z l l' h, hn, p, hp => by
    have hn' := List.pairwise_cons.1 hn
    rcases List.mem_cons.1 hp with e | e
    · exact .inr ⟨e ▸ List.mem_cons_self, fun b hb hx => hn'.1 x h.mem b (e ▸ hb) hx⟩
    · rcases h.others hn'.2 p e with e | ⟨e, e2⟩
      · exact .inl e
      · exact .inr ⟨List.mem_cons_of_mem _ e, e2⟩
theorem At.pair {x y : Ent} {N : Nat} (hxy : ∀ b ∈ y.bs, b ∈ x.bs ∨ N ≤ b) : ∀ {l l' : List Ent}, At x y l l' → (∀ e ∈ l, ∀ b ∈ e.bs, b < N) → l.Pairwise (fun e f => ∀ b ∈ e.bs, b ∉ f.bs) → l'.Pairwise (fun e f => ∀ b ∈ e.bs, b ∉ f.bs)
  | _, _, .head l, hN, hn => by
    have hn' := List.pairwise_cons.1 hn
    refine List.pairwise_cons.2 ⟨fun p hp b hb hb' => ?_, hn'.2⟩
    rcases hxy b hb with h | h
    · exact hn'.1 p hp b h hb'
    · have := hN p (List.mem_cons_of_mem _ hp) b hb'; omega
  | _, _, .tail z l l' h, hN, hn => by
    have hn' := List.pairwise_cons.1 hn
    refine List.pairwise_cons.2 ⟨fun p hp b hb hb' => ?_, h.pair hxy (fun e he => hN e (List.mem_cons_of_mem _ he)) hn'.2⟩
    rcases h.mem' p hp with e | e
    · subst e
      rcases hxy b hb' with h1 | h1
      · exact hn'.1 x h.mem b hb h1
      · have := hN z List.mem_cons_self b hb; omega
    · exact hn'.1 p e b hb hb'

theorem Own.start (W : World) : Own W W [] := ⟨Below.refl _ _, by simp, by simp, by simp, by simp, List.Pairwise.nil⟩
theorem Own.call {W w w1 : World} {L : List Ent} (h : Own W w L) (hb : Below w.heap.size w w1) : Own W w1 L :=
  ⟨h.grown.trans (hb.mono h.grown.size), fun p hp => h.ok p hp w w1 (fun b hb' => hb.block _ (h.lt p hp b hb')) (h.has p hp), h.ok, fun p hp b hb' => Nat.lt_of_lt_of_le (h.lt p hp b hb') hb.size, h.new, h.apart⟩
theorem Own.drew {W w : World} {L : List Ent} (h : Own W w L) : Own W w.drew L := h.call (Below.refl _ _).drew
/-- A piece more. -/
theorem Own.more {W w w1 : World} {L : List Ent} {e : Ent} (h : Own W w L) (hb : Below w.heap.size w w1) (hok : e.Ok) (hF : e.F w1) (hnew : ∀ b ∈ e.bs, w.heap.size ≤ b) (hlt : ∀ b ∈ e.bs, b < w1.heap.size) : Own W w1 (e :: L) := by
  have h1 := h.call hb
  refine ⟨h1.grown, fun p hp => ?_, fun p hp => ?_, fun p hp => ?_, fun p hp => ?_, List.pairwise_cons.2 ⟨fun p hp b hb hb' => ?_, h.apart⟩⟩
  · rcases List.mem_cons.1 hp with e | e
    · rw [e]; exact hF
    · exact h1.has p e
  · rcases List.mem_cons.1 hp with e | e
    · rw [e]; exact hok
    · exact h1.ok p e
  · rcases List.mem_cons.1 hp with e | e
    · rw [e]; exact hlt
    · exact h1.lt p e
  · rcases List.mem_cons.1 hp with e | e
    · rw [e]; exact fun b hb => Nat.le_trans h.grown.size (hnew b hb)
    · exact h1.new p e
  · have := h.lt p hp b hb'
    have := hnew b hb
    omega
/-- A piece turned. -/
theorem Own.turn {W w w1 : World} {L L' : List Ent} {e e' : Ent} (h : Own W w L) (hat : At e e' L L') (hs : w1.os = w.os) (ht : w1.tape = w.tape) (hp : w1.output = w.output) (hz : w.heap.size ≤ w1.heap.size)
    (hk : ∀ k, k < w.heap.size → k ∉ e.bs → w1.heap[k]? = w.heap[k]?) (hok : e'.Ok) (hF : e'.F w1) (hbs : ∀ b ∈ e'.bs, b ∈ e.bs ∨ w.heap.size ≤ b) (hlt : ∀ b ∈ e'.bs, b < w1.heap.size) : Own W w1 L' := by
  have hB := h.new _ hat.mem
  have hg := h.grown.size
  refine ⟨h.grown.trans ⟨hs, ht, hp, hz, fun k hk' => hk k (by omega) (fun hm => ?_)⟩, fun p hp => ?_, fun p hp => ?_, fun p hp => ?_, fun p hp => ?_, hat.pair hbs h.lt h.apart⟩
  · have := hB k hm; omega
  · rcases hat.others h.apart p hp with e | ⟨e, e2⟩
    · rw [e]; exact hF
    · exact h.ok p e w w1 (fun b hb => hk b (h.lt p e b hb) (e2 b hb)) (h.has p e)
  · rcases hat.mem' p hp with e | e
    · rw [e]; exact hok
    · exact h.ok p e
  · rcases hat.mem' p hp with e | e
    · rw [e]; exact hlt
    · exact fun b hb => Nat.lt_of_lt_of_le (h.lt p e b hb) hz
  · rcases hat.mem' p hp with e | e
    · rw [e]
      intro b hb
      rcases hbs b hb with h1 | h1
      · exact hB b h1
      · omega
    · exact h.new p e
theorem Own.tail {W w : World} {L : List Ent} {e : Ent} (h : Own W w (e :: L)) : Own W w L :=
  ⟨h.grown, fun q hq => h.has q (List.mem_cons_of_mem _ hq), fun q hq => h.ok q (List.mem_cons_of_mem _ hq), fun q hq => h.lt q (List.mem_cons_of_mem _ hq), fun q hq => h.new q (List.mem_cons_of_mem _ hq), (List.pairwise_cons.1 h.apart).2⟩
theorem Own.sub {W w : World} {L L' : List Ent} (h : Own W w L) (hs : L'.Sublist L) : Own W w L' :=
  ⟨h.grown, fun p hp => h.has p (hs.mem hp), fun p hp => h.ok p (hs.mem hp), fun p hp => h.lt p (hs.mem hp), fun p hp => h.new p (hs.mem hp), h.apart.sublist hs⟩
/-- Two pieces change places. -/
theorem Own.swap {W w : World} {L : List Ent} {e f : Ent} (h : Own W w (e :: f :: L)) : Own W w (f :: e :: L) := by
  have hp : (f :: e :: L).Perm (e :: f :: L) := List.Perm.swap _ _ _
  refine ⟨h.grown, fun p hq => h.has p (hp.mem_iff.1 hq), fun p hq => h.ok p (hp.mem_iff.1 hq), fun p hq => h.lt p (hp.mem_iff.1 hq), fun p hq => h.new p (hp.mem_iff.1 hq), ?_⟩
  have h1 := List.pairwise_cons.1 h.apart
  have h2 := List.pairwise_cons.1 h1.2
  exact List.pairwise_cons.2 ⟨fun p hp b hb hb' => by
    rcases List.mem_cons.1 hp with e | e
    · subst e; exact h1.1 f List.mem_cons_self b hb' hb
    · exact h2.1 p e b hb hb', List.pairwise_cons.2 ⟨fun p hp => h1.1 p (List.mem_cons_of_mem _ hp), h2.2⟩⟩
/-- The same piece, known otherwise. -/
theorem Own.as {W w : World} {L L' : List Ent} {e e' : Ent} (h : Own W w L) (hat : At e e' L L') (hok : e'.Ok) (hF : e.F w → e'.F w) (hbs : ∀ b ∈ e'.bs, b ∈ e.bs) : Own W w L' :=
  h.turn hat rfl rfl rfl (Nat.le_refl _) (fun _ _ _ => rfl) hok (hF (h.has _ hat.mem)) (fun b hb => .inl (hbs b hb)) (fun b hb => h.lt _ hat.mem b (hbs b hb))

/-! Pieces: a block; a row that is grown; a slice that is read. -/
def box (b : Nat) (o : Obj) : Ent := ⟨[b], fun w => w.heap[b]? = some o⟩
theorem box_ok (b : Nat) (o : Obj) : (box b o).Ok := fun w w' h hF => by
  simp only [box, List.mem_singleton, forall_eq] at *
  rw [h]; exact hF
def blkOf : Value → List Nat
  | .slice (some a) _ _ => [a.block]
  | _ => []
/-- A row of structs of k cells each, that the call grows; v: the slice. -/
def row (t : TypeId) (k : Nat) (v : Value) (A : List (List Value)) : Ent := ⟨blkOf v, fun w => w.ownsRow 0 t k v A.length A.flatten⟩
/-- Structs of k cells each, one behind the other; v: the slice. -/
def isl (k : Nat) (v : Value) (A : List (List Value)) : Ent := ⟨if A.length = 0 then [] else blkOf v, fun w => IsL w k v A⟩
theorem row_ok (t : TypeId) (k : Nat) (v : Value) (A : List (List Value)) : (row t k v A).Ok := fun w w' h hF => by
  obtain ⟨h1, h2⟩ := hF
  refine ⟨h1, ?_⟩
  rcases h2 with h2 | ⟨g, cap, cur, hv, hg, hh, r⟩
  · exact .inl h2
  · exact .inr ⟨g, cap, cur, hv, hg, by rw [h g (by rw [hv]; exact List.mem_singleton.2 rfl)]; exact hh, r⟩
theorem row_lt (t : TypeId) (k : Nat) (v : Value) (A : List (List Value)) : (row t k v A).Lt := fun w hF b hb => by
  rcases hF.2 with ⟨h2, _⟩ | ⟨g, cap, cur, hv, hg, hh, r⟩
  · subst h2; cases hb
  · subst hv
    have := List.mem_singleton.1 hb
    subst this
    exact lt_of_block hh
theorem isl_ok (k : Nat) (v : Value) (A : List (List Value)) : (isl k v A).Ok := fun w w' h hF => by
  simp only [isl] at hF h
  cases hF with
  | none sp sc hn => exact .none sp sc hn
  | some a cap L hlen hcap h0 hR =>
    have hb := h a.block (by rw [if_neg (by omega)]; exact List.mem_singleton.2 rfl)
    refine .some a cap _ hlen hcap h0 ⟨?_, fun i hi j u hu => ?_⟩
    · have h1 := hR.lt
      rw [Array.getElem?_eq_getElem h1] at hb
      exact lt_of_block hb
    · rw [← hR.c i hi j u hu]
      exact World.cell?_of_block (w := w) (by rw [lBlock, lBlock]; exact hb)
theorem isl_lt (k : Nat) (v : Value) (A : List (List Value)) : (isl k v A).Lt := fun w hF b hb => by
  simp only [isl] at hF hb
  cases hF with
  | none sp sc hn => simp at hb
  | some a cap L hlen hcap h0 hR =>
    rw [if_neg (by omega)] at hb
    have := List.mem_singleton.1 hb
    subst this
    exact hR.lt
theorem Own.alloc {W w : World} {L : List Ent} (h : Own W w L) (o : Obj) : Own W (w.alloc o) (box w.heap.size o :: L) :=
  h.more ((Below.refl _ _).alloc (Nat.le_refl _) o) (box_ok _ _) (heap_alloc_new w o) (by simp [box]) (by simp [box])
/-- An empty row. -/
theorem Own.nil {W w : World} {L : List Ent} (h : Own W w L) (t k : Nat) : Own W w (row t k (.slice none 0 0) [] :: L) :=
  h.more (Below.refl _ _) (row_ok _ _ _ _) (World.ownsRow_nil _ _ _ _) (by simp [row, blkOf]) (by simp [row, blkOf])
/-- A row reads as a slice. -/
theorem Own.read {W w : World} {L L' : List Ent} {t k : Nat} {v : Value} {A : List (List Value)} (h : Own W w L) (hat : At (row t k v A) (isl k v A) L L') (hA : ∀ l ∈ A, l.length = k) : Own W w L' :=
  h.as hat (isl_ok _ _ _) (fun hF => isL_of_owns hA hF) (fun b hb => by simp only [isl] at hb; split at hb; · cases hb
                                                                        · exact hb)
/-- A slice that a callee hands back, in memory of its own. -/
def Fresh (w : World) (v : Value) : Prop := ∀ a n c, v = .slice (some a) n c → 0 < n → w.heap.size ≤ a.block
theorem Own.got {W w w1 : World} {L : List Ent} {k : Nat} {v : Value} {A : List (List Value)} (h : Own W w L) (hb : Below w.heap.size w w1) (hv : IsL w1 k v A) (hf : Fresh w v) : Own W w1 (isl k v A :: L) := by
  refine h.more hb (isl_ok _ _ _) hv (fun b hb => ?_) (isl_lt k v A w1 hv)
  simp only [isl] at hb
  cases hv with
  | none sp sc hn => simp at hb
  | some a cap L hlen hcap h0 hR =>
    rw [if_neg (by omega)] at hb
    have := List.mem_singleton.1 hb
    subst this
    exact hf a _ _ rfl h0

/-- Cells put into a row. -/
def putL (cs : List Value) (off : Nat) (vs : List Value) : List Value := cs.take off ++ vs ++ cs.drop (off + vs.length)

section
variable {P : Program}
/-- The size of a type that is a struct or an array. -/
def aggSize (P : Program) (t : TypeId) : Option Nat :=
  match P.underlying t, P.info? t with
  | some (.struct _), some i => some i.size
  | some (.array _ _), some i => some i.size
  | _, _ => none
/-- Is a type of one cell? -/
def oneCellT (P : Program) (t : TypeId) : Bool :=
  match P.underlying t, P.info? t with
  | some (.struct _), _ => false
  | some (.array _ _), _ => false
  | some _, some i => i.size == 1
  | _, _ => false

theorem run_isAgg_yes {t n : Nat} (h : aggSize P t = some n) (w : World) : (isAgg t).run P w = .ok true w ∧ (sizeOf t).run P w = .ok n w := by
  unfold aggSize at h
  cases hu : P.underlying t with
  | none => simp [hu] at h
  | some d =>
    cases hi : P.info? t with
    | none => cases d <;> simp [hu, hi] at h
    | some i =>
      cases d <;> simp [hu, hi] at h <;> (subst h; constructor <;> simp [isAgg, underlying, sizeOf, typeInfo, hu, hi])
theorem run_isAgg_no {t : Nat} (h : oneCellT P t = true) (w : World) : (isAgg t).run P w = .ok false w ∧ (sizeOf t).run P w = .ok 1 w := by
  unfold oneCellT at h
  cases hu : P.underlying t with
  | none => simp [hu] at h
  | some d =>
    cases hi : P.info? t with
    | none => cases d <;> simp [hu, hi] at h
    | some i =>
      cases d <;> simp [hu, hi] at h <;> (constructor <;> simp [isAgg, underlying, sizeOf, typeInfo, hu, hi, h])

theorem cellAt {w : World} {b : Nat} {cs : List Value} {T : TypeId} (h : w.heap[b]? = some (.cells cs.toArray T)) (i : Nat) : w.cell? ⟨b, i, none⟩ = cs[i]? := by
  rw [cell_of_row w b i _ _ _ h]; simp
theorem frozenAt {w : World} {b : Nat} {cs : List Value} {T : TypeId} (h : w.heap[b]? = some (.cells cs.toArray T)) (i : Nat) : w.frozen? ⟨b, i, none⟩ = false := by
  unfold World.frozen?
  rw [show (⟨b, i, none⟩ : Addr).block = b from rfl, h]
  simp
theorem addAt (b off i : Nat) : (⟨b, off, none⟩ : Addr).add i = ⟨b, off + i, none⟩ := by unfold Addr.add; split <;> simp_all

theorem run_load_agg {W w : World} {L L' : List Ent} {b off n : Nat} {cs : List Value} {T t : TypeId} {o : Oper} {a : Act} (hO : Own W w L) (x : Operand) (ho : o.op = .load t x)
    (hx : a.eval x = .pointer (some ⟨b, off, none⟩)) (hat : At (box b (.cells cs.toArray T)) (box b (.cells cs.toArray T)) L L') (ht : aggSize P t = some n) (hn : off + n ≤ cs.length) :
    (execOp a.eval o).run P w = .ok (.value (.agg ((cs.drop off).take n).toArray)) w := by
  have hh : w.heap[b]? = some (.cells cs.toArray T) := hO.has _ hat.mem
  have hl : (loadCells ⟨b, off, none⟩ ((cs.drop off).take n).length).run P w = .ok ((cs.drop off).take n).toArray w :=
    run_loadCells_list (P := P) w ⟨b, off, none⟩ ((cs.drop off).take n) (fun j v hv => by
      rw [addAt, cellAt hh]
      rw [List.getElem?_take] at hv
      split at hv
      · rwa [List.getElem?_drop] at hv
      · cases hv)
  rw [show ((cs.drop off).take n).length = n by simp; omega] at hl
  obtain ⟨h1, h2⟩ := run_isAgg_yes ht w
  simp [execOp, ho, hx, Instr.loadAt, Instr.sureAddr, loadVar, h1, h2, hl]
theorem run_load_one {W w : World} {L L' : List Ent} {b off : Nat} {cs : List Value} {v : Value} {T t : TypeId} {o : Oper} {a : Act} (hO : Own W w L) (x : Operand) (ho : o.op = .load t x)
    (hx : a.eval x = .pointer (some ⟨b, off, none⟩)) (hat : At (box b (.cells cs.toArray T)) (box b (.cells cs.toArray T)) L L') (ht : oneCellT P t = true) (hv : cs[off]? = some v) :
    (execOp a.eval o).run P w = .ok (.value v) w := by
  have hh : w.heap[b]? = some (.cells cs.toArray T) := hO.has _ hat.mem
  obtain ⟨h1, h2⟩ := run_isAgg_no ht w
  simp [execOp, ho, hx, Instr.loadAt, Instr.sureAddr, loadVar, h1, cellAt hh, hv]

/-- All of a row's cells are one cell's. -/
theorem run_storeCells_own : ∀ (vs : List Value) (w : World) (b off i : Nat) (cs : List Value) (T : TypeId), w.heap[b]? = some (.cells cs.toArray T) → off + i + vs.length ≤ cs.length → (∀ v ∈ vs, v.oneCell' = true) →
    ∃ w', (storeCells ⟨b, off, none⟩ vs i).run P w = .ok () w' ∧ w'.os = w.os ∧ w'.tape = w.tape ∧ w'.output = w.output ∧ w'.heap.size = w.heap.size ∧ (∀ k, k ≠ b → w'.heap[k]? = w.heap[k]?) ∧
      w'.heap[b]? = some (.cells (putL cs (off + i) vs).toArray T)
  | [], w, b, off, i, cs, T, h, _, _ => ⟨w, rfl, rfl, rfl, rfl, rfl, fun _ _ => rfl, by simpa [putL] using h⟩
  | v :: vs, w, b, off, i, cs, T, h, hn, h1 => by
    have hi : off + i < cs.length := by simp at hn; omega
    have hc : w.cell? ⟨b, off + i, none⟩ = some cs[off + i] := by rw [cellAt h]; simp [hi]
    have hv := h1 v List.mem_cons_self
    have hset : (w.setCell ⟨b, off + i, none⟩ v).heap[b]? = some (.cells (cs.set (off + i) v).toArray T) := by
      simp [World.setCell, Array.getElem?_modify, h]
    obtain ⟨w', hr, e1, e2, e3, e4, e5, e6⟩ := run_storeCells_own vs (w.setCell ⟨b, off + i, none⟩ v) b off (i + 1) (cs.set (off + i) v) T hset (by simp at hn ⊢; omega) (fun x hx => h1 x (List.mem_cons_of_mem _ hx))
    refine ⟨w', ?_, e1, e2, e3, by rw [e4]; simp, fun k hk => (e5 k hk).trans (Below.heap_setCell _ _ _ _ hk), ?_⟩
    · unfold storeCells
      rw [Sem.run_bind, addAt, run_store P w _ v .plain hv, hc]
      simp only [frozenAt h, Bool.false_eq_true, if_false, Result.andThen_ok]
      exact hr
    · rw [e6]
      have : putL (cs.set (off + i) v) (off + (i + 1)) vs = putL cs (off + i) (v :: vs) := by
        unfold putL
        have e1 : (cs.set (off + i) v).take (off + (i + 1)) = cs.take (off + i) ++ [v] := by
          rw [← Nat.add_assoc, List.take_succ_eq_append_getElem (by simpa using hi)]
          rw [List.take_set_of_le (Nat.le_refl _)]
          simp
        have e2 : (cs.set (off + i) v).drop (off + (i + 1) + vs.length) = cs.drop (off + i + (v :: vs).length) := by
          rw [List.drop_set_of_lt (by omega)]
          congr 1
          simp; omega
        rw [e1, e2]
        simp
      rw [this]

theorem run_store_own {W w : World} {L L' : List Ent} {b off : Nat} {cs vs : List Value} {v : Value} {T t : TypeId} {o : Oper} {a : Act} (hO : Own W w L) (x y : Operand) (ho : o.op = .store t x y)
    (hx : a.eval x = .pointer (some ⟨b, off, none⟩)) (hy : a.eval y = v) (hv : v.cells = vs.toArray) (hat : At (box b (.cells cs.toArray T)) (box b (.cells (putL cs off vs).toArray T)) L L') (ht : (P.info? t).map (·.size) = some vs.length) (hn : off + vs.length ≤ cs.length)
    (h1 : ∀ u ∈ vs, u.oneCell' = true) : ∃ w', (execOp a.eval o).run P w = .ok .skip w' ∧ Own W w' L' := by
  have hh : w.heap[b]? = some (.cells cs.toArray T) := hO.has _ hat.mem
  obtain ⟨w', hr, e1, e2, e3, e4, e5, e6⟩ := run_storeCells_own (P := P) vs w b off 0 cs T hh hn h1
  refine ⟨w', ?_, hO.turn hat e1 e2 e3 (by omega) (fun k _ hk => e5 k (by simpa [box] using hk)) (box_ok _ _) e6 (fun b hb => .inl hb) (fun c hc => by have := List.mem_singleton.1 hc; subst this; exact lt_of_block e6)⟩
  cases hi : P.info? t with
  | none => simp [hi] at ht
  | some i =>
    have hs : i.size = vs.length := by simpa [hi] using ht
    have hs2 : vs.length = i.size := hs.symm
    simp [execOp, ho, hx, hy, Instr.storeAt, Instr.sureAddr, storeVar, sizeOf, typeInfo, hi, hv, hs2, hr]

theorem run_box_own {W w : World} {L : List Ent} {v : Value} {t : TypeId} {o : Oper} {a : Act} (hO : Own W w L) (x : Operand) (ho : o.op = .box t x) (hx : a.eval x = v) :
    ∃ w' b, (execOp a.eval o).run P w = .ok (.value (.pointer (some ⟨b, 0, none⟩))) w' ∧ Own W w' (box b (.cells v.cells t) :: L) :=
  ⟨_, _, by simp [execOp, ho, hx, Instr.box, newVar, newRow], hO.alloc (.cells v.cells t)⟩
theorem run_alloc_own {W w : World} {L : List Ent} {v : Value} {t : TypeId} {o : Oper} {a : Act} (hO : Own W w L) (ho : o.op = .alloc t) (hz : ((P.info? t).bind (·.zero)) = some v) :
    ∃ w' b, (execOp a.eval o).run P w = .ok (.value (.pointer (some ⟨b, 0, none⟩))) w' ∧ Own W w' (box b (.cells v.cells t) :: L) := by
  cases hi : P.info? t with
  | none => simp [hi] at hz
  | some i =>
    have hz' : i.zero = some v := by simpa [hi] using hz
    exact ⟨_, _, by simp [execOp, ho, Instr.alloc, zeroValue, typeInfo, hi, hz', newVar, newRow], hO.alloc (.cells v.cells t)⟩

/-- A struct of memory that was there when the call began. -/
theorem run_load_old {W w : World} {L : List Ent} {p : Addr} {l : List Value} {t : TypeId} {o : Oper} {a : Act} (hO : Own W w L) (x : Operand) (ho : o.op = .load t x)
    (hx : a.eval x = .pointer (some p)) (hp : p.block < W.heap.size) (hl : ∀ j v, l[j]? = some v → W.cell? (p.add j) = some v) (ht : aggSize P t = some l.length) :
    (execOp a.eval o).run P w = .ok (.value (.agg l.toArray)) w := by
  have hc : (loadCells p l.length).run P w = .ok l.toArray w :=
    run_loadCells_list (P := P) w p l (fun j v hv => by
      rw [hO.grown.cell (p := p.add j) (by unfold Addr.add; split <;> exact hp)]
      exact hl j v hv)
  obtain ⟨h1, h2⟩ := run_isAgg_yes ht w
  simp [execOp, ho, hx, Instr.loadAt, Instr.sureAddr, loadVar, h1, h2, hc]
theorem run_load_old1 {W w : World} {L : List Ent} {p : Addr} {v : Value} {t : TypeId} {o : Oper} {a : Act} (hO : Own W w L) (x : Operand) (ho : o.op = .load t x)
    (hx : a.eval x = .pointer (some p)) (hp : p.block < W.heap.size) (hl : W.cell? p = some v) (ht : oneCellT P t = true) :
    (execOp a.eval o).run P w = .ok (.value v) w := by
  obtain ⟨h1, h2⟩ := run_isAgg_no ht w
  have hc : w.cell? p = some v := (hO.grown.cell (p := p) hp).trans hl
  simp [execOp, ho, hx, Instr.loadAt, Instr.sureAddr, loadVar, h1, hc]

/-! What a type is: found by its number. -/
class IsAgg (P : Program) (t : TypeId) (n : outParam Nat) : Prop where out : aggSize P t = some n
class IsOne (P : Program) (t : TypeId) : Prop where out : oneCellT P t = true
class HasSize (P : Program) (t : TypeId) (n : outParam Nat) : Prop where out : (P.info? t).map (·.size) = some n
class HasZero (P : Program) (t : TypeId) (v : outParam Value) : Prop where out : (P.info? t).bind (·.zero) = some v

/-! The operations in a list of operations. -/
section
variable {ops : Array Oper} {rest : List Oper} {o : Oper} {a : Act} {W w : World} {Q : Exit → Act → World → Prop} {L L' : List Ent}

theorem wpList_value {v : Value} {w' : World} (hw : Region.wanted o (yielded ops a.tmps) = true) (hr : (execOp a.eval o).run P w = .ok (.value v) w') (h : wpList P ops Q rest (a.put o.dst v) w') : wpList P ops Q (o :: rest) a w := by
  unfold wpList
  rw [if_pos hw]
  left
  unfold Oper.wp
  rw [hr]
  exact h
theorem wpList_skipped {w' : World} (hw : Region.wanted o (yielded ops a.tmps) = true) (hr : (execOp a.eval o).run P w = .ok .skip w') (h : wpList P ops Q rest (a.put o.dst undef) w') : wpList P ops Q (o :: rest) a w := by
  unfold wpList
  rw [if_pos hw]
  left
  unfold Oper.wp
  rw [hr]
  exact h
theorem wpList_loadAll {b n : Nat} {cs : List Value} {T t : TypeId} (hO : Own W w L) {x : Operand} (ho : o.op = .load t x) (hx : a.eval x = .pointer (some ⟨b, 0, none⟩)) (hat : At (box b (.cells cs.toArray T)) (box b (.cells cs.toArray T)) L L')
    (ht : IsAgg P t n) (hn : cs.length = n) (hw : Region.wanted o (yielded ops a.tmps) = true) (h : wpList P ops Q rest (a.put o.dst (.agg cs.toArray)) w) : wpList P ops Q (o :: rest) a w :=
  wpList_value hw (run_load_agg hO x ho hx hat ht.out (by omega)) (by rw [List.drop_zero, List.take_of_length_le (by omega)]; exact h)
theorem wpList_loadPart {b off n : Nat} {cs l : List Value} {T t : TypeId} (hO : Own W w L) {x : Operand} (ho : o.op = .load t x) (hx : a.eval x = .pointer (some ⟨b, off, none⟩)) (hat : At (box b (.cells cs.toArray T)) (box b (.cells cs.toArray T)) L L')
    (ht : IsAgg P t n) (hn : off + n ≤ cs.length) (hl : (cs.drop off).take n = l) (hw : Region.wanted o (yielded ops a.tmps) = true) (h : wpList P ops Q rest (a.put o.dst (.agg l.toArray)) w) : wpList P ops Q (o :: rest) a w :=
  wpList_value hw (run_load_agg hO x ho hx hat ht.out hn) (by rw [hl]; exact h)
theorem wpList_loadOne {b off : Nat} {cs : List Value} {v : Value} {T t : TypeId} (hO : Own W w L) {x : Operand} (ho : o.op = .load t x) (hx : a.eval x = .pointer (some ⟨b, off, none⟩)) (hat : At (box b (.cells cs.toArray T)) (box b (.cells cs.toArray T)) L L')
    (hv : cs[off]? = some v) (ht : IsOne P t) (hw : Region.wanted o (yielded ops a.tmps) = true) (h : wpList P ops Q rest (a.put o.dst v) w) : wpList P ops Q (o :: rest) a w :=
  wpList_value hw (run_load_one hO x ho hx hat ht.out hv) h
theorem wpList_loadOld {p : Addr} {l : List Value} {t : TypeId} (hO : Own W w L) {x : Operand} (ho : o.op = .load t x) (hx : a.eval x = .pointer (some p)) (hp : p.block < W.heap.size) (hl : ∀ j v, l[j]? = some v → W.cell? (p.add j) = some v)
    (ht : IsAgg P t l.length) (hw : Region.wanted o (yielded ops a.tmps) = true) (h : wpList P ops Q rest (a.put o.dst (.agg l.toArray)) w) : wpList P ops Q (o :: rest) a w :=
  wpList_value hw (run_load_old hO x ho hx hp hl ht.out) h
theorem wpList_loadOld1 {p : Addr} {v : Value} {t : TypeId} (hO : Own W w L) {x : Operand} (ho : o.op = .load t x) (hx : a.eval x = .pointer (some p)) (hp : p.block < W.heap.size) (hl : W.cell? p = some v)
    (ht : IsOne P t) (hw : Region.wanted o (yielded ops a.tmps) = true) (h : wpList P ops Q rest (a.put o.dst v) w) : wpList P ops Q (o :: rest) a w :=
  wpList_value hw (run_load_old1 hO x ho hx hp hl ht.out) h
/-- A struct, or an array, stored into all of a row. -/
theorem wpList_storeAll {b n : Nat} {cs vs : List Value} {T t : TypeId} (hO : Own W w L) {x y : Operand} (ho : o.op = .store t x y) (hx : a.eval x = .pointer (some ⟨b, 0, none⟩)) (hy : a.eval y = .agg vs.toArray)
    (hat : At (box b (.cells cs.toArray T)) (box b (.cells vs.toArray T)) L L') (ht : HasSize P t n) (hn : cs.length = n) (hn' : vs.length = n) (h1 : (vs.all fun u => u.oneCell') = true)
    (hw : Region.wanted o (yielded ops a.tmps) = true) (h : ∀ w', Own W w' L' → wpList P ops Q rest (a.put o.dst undef) w') : wpList P ops Q (o :: rest) a w := by
  have hp : putL cs 0 vs = vs := by unfold putL; simp; omega
  obtain ⟨w', hr, hO'⟩ := run_store_own (P := P) (L' := L') (vs := vs) hO x y ho hx hy rfl (by rw [hp]; exact hat) (by rw [ht.out, hn']) (by omega) (List.all_eq_true.1 h1)
  exact wpList_skipped hw hr (h w' hO')
theorem wpList_storePart {b off n : Nat} {cs cs' vs : List Value} {v : Value} {T t : TypeId} (hO : Own W w L) {x y : Operand} (ho : o.op = .store t x y) (hx : a.eval x = .pointer (some ⟨b, off, none⟩)) (hy : a.eval y = v) (hv : v.cells = vs.toArray)
    (hat : At (box b (.cells cs.toArray T)) (box b (.cells cs'.toArray T)) L L') (ht : HasSize P t n) (hn' : vs.length = n) (hn : off + n ≤ cs.length) (hp : putL cs off vs = cs') (h1 : (vs.all fun u => u.oneCell') = true)
    (hw : Region.wanted o (yielded ops a.tmps) = true) (h : ∀ w', Own W w' L' → wpList P ops Q rest (a.put o.dst undef) w') : wpList P ops Q (o :: rest) a w := by
  obtain ⟨w', hr, hO'⟩ := run_store_own (P := P) (L' := L') (vs := vs) hO x y ho hx hy hv (by rw [hp]; exact hat) (by rw [ht.out, hn']) (by omega) (List.all_eq_true.1 h1)
  exact wpList_skipped hw hr (h w' hO')
theorem wpList_storeOne {b off : Nat} {cs cs' : List Value} {v : Value} {T t : TypeId} (hO : Own W w L) {x y : Operand} (ho : o.op = .store t x y) (hx : a.eval x = .pointer (some ⟨b, off, none⟩)) (hy : a.eval y = v) (hv : v.oneCell' = true)
    (hat : At (box b (.cells cs.toArray T)) (box b (.cells cs'.toArray T)) L L') (ht : HasSize P t 1) (hn : off < cs.length) (hp : cs.set off v = cs')
    (hw : Region.wanted o (yielded ops a.tmps) = true) (h : ∀ w', Own W w' L' → wpList P ops Q rest (a.put o.dst undef) w') : wpList P ops Q (o :: rest) a w := by
  have hp' : putL cs off [v] = cs' := by
    rw [← hp]; unfold putL
    rw [List.set_eq_take_append_cons_drop, if_pos hn]; simp
  obtain ⟨w', hr, hO'⟩ := run_store_own (P := P) (L' := L') (vs := [v]) hO x y ho hx hy (by cases v <;> first | rfl | cases hv) (by rw [hp']; exact hat) (by rw [ht.out]; rfl) (by simp; omega) (by simpa using hv)
  exact wpList_skipped hw hr (h w' hO')
theorem wpList_box {v : Value} {t : TypeId} (n : Nat) (hO : Own W w L) (_hn : L.length = n) {x : Operand} (ho : o.op = .box t x) (hx : a.eval x = v) {cs : Array Value} (hc : v.cells = cs)
    (hw : Region.wanted o (yielded ops a.tmps) = true) (h : ∀ b w', Own W w' (box b (.cells cs t) :: L) → wpList P ops Q rest (a.put o.dst (.pointer (some ⟨b, 0, none⟩))) w') : wpList P ops Q (o :: rest) a w := by
  obtain ⟨w', b, hr, hO'⟩ := run_box_own (P := P) hO x ho hx
  exact wpList_value hw hr (h b w' (by rw [← hc]; exact hO'))
theorem wpList_boxAgg {cs : Array Value} {t : TypeId} (n : Nat) (hO : Own W w L) (hn : L.length = n) {x : Operand} (ho : o.op = .box t x) (hx : a.eval x = .agg cs)
    (hw : Region.wanted o (yielded ops a.tmps) = true) (h : ∀ b w', Own W w' (box b (.cells cs t) :: L) → wpList P ops Q rest (a.put o.dst (.pointer (some ⟨b, 0, none⟩))) w') : wpList P ops Q (o :: rest) a w :=
  wpList_box n hO hn ho hx rfl hw h
theorem wpList_boxOne {v : Value} {t : TypeId} (n : Nat) (hO : Own W w L) (hn : L.length = n) {x : Operand} (ho : o.op = .box t x) (hx : a.eval x = v) (hv : v.oneCell' = true)
    (hw : Region.wanted o (yielded ops a.tmps) = true) (h : ∀ b w', Own W w' (box b (.cells #[v] t) :: L) → wpList P ops Q rest (a.put o.dst (.pointer (some ⟨b, 0, none⟩))) w') : wpList P ops Q (o :: rest) a w :=
  wpList_box n hO hn ho hx (by cases v <;> first | rfl | cases hv) hw h
theorem wpList_allocAgg {cs : Array Value} {t : TypeId} (n : Nat) (hO : Own W w L) (_hn : L.length = n) (ho : o.op = .alloc t) (hz : HasZero P t (.agg cs))
    (hw : Region.wanted o (yielded ops a.tmps) = true) (h : ∀ b w', Own W w' (box b (.cells cs t) :: L) → wpList P ops Q rest (a.put o.dst (.pointer (some ⟨b, 0, none⟩))) w') : wpList P ops Q (o :: rest) a w := by
  obtain ⟨w', b, hr, hO'⟩ := run_alloc_own (P := P) hO ho hz.out
  exact wpList_value hw hr (h b w' hO')
theorem wpList_alloc {v : Value} {t : TypeId} (n : Nat) (hO : Own W w L) (_hn : L.length = n) (ho : o.op = .alloc t) (hz : HasZero P t v) {cs : Array Value} (hc : v.cells = cs)
    (hw : Region.wanted o (yielded ops a.tmps) = true) (h : ∀ b w', Own W w' (box b (.cells cs t) :: L) → wpList P ops Q rest (a.put o.dst (.pointer (some ⟨b, 0, none⟩))) w') : wpList P ops Q (o :: rest) a w := by
  obtain ⟨w', b, hr, hO'⟩ := run_alloc_own (P := P) hO ho hz.out
  exact wpList_value hw hr (h b w' (by rw [← hc]; exact hO'))
end


/-! Append. -/
class IsSlice (P : Program) (t : TypeId) (e : outParam TypeId) : Prop where out : P.underlying t = some (.slice e)
class IsElem (P : Program) (e : TypeId) (k : outParam Nat) (bytes : outParam Nat) : Prop where
  out : ((P.info? e).bind fun i => i.zero.map fun z => (z.cells.size, i.size, i.bytes)) = some (k, k, bytes)
  pos : 0 < k
theorem run_append_row {w : World} {t ty e k bytes m c : Nat} {v : Value} {A N : List (List Value)} {p : Addr} (ht : P.underlying t = some (.slice e)) (he : IsElem P e k bytes) (hown : w.ownsRow 0 e k v A.length A.flatten)
    (hm : N.length = m) (hN : ∀ l ∈ N, l.length = k) (hnews : ∀ j u, N.flatten[j]? = some u → w.cell? (p.add j) = some u) (h1 : ∀ u ∈ N.flatten, u.oneCell' = true) (h63 : A.length + m ≤ maxLen) (hbytes : (A.length + m) * bytes ≤ 140737488355328) :
    ∃ v' w', (Builtin.append_ #[t, t] ty #[v, .slice (some p) m c]).run P w = .ok v' w' ∧ w'.ownsRow 0 e k v' (A ++ N).length (A ++ N).flatten ∧ w.grownBy w' v.ownBlock ∧ (∀ b, v'.ownBlock = some b → v.ownBlock = some b ∨ w.heap.size ≤ b) ∧
      (v' = .slice none 0 0 ↔ v = .slice none 0 0 ∧ m = 0) := by
  have ho := he.out
  have hp := he.pos
  cases hi : P.info? e with
  | none => simp [hi] at ho
  | some i =>
    cases hz : i.zero with
    | none => simp [hi, hz] at ho
    | some z =>
      simp only [hi, hz, Option.bind_some, Option.map_some, Option.some.injEq, Prod.mk.injEq] at ho
      obtain ⟨hzs, hsize, hby⟩ := ho
      have hl : N.flatten.length = m * k := by rw [flatL_len hN, hm]
      obtain ⟨v', w', hr, h2, h3, h4⟩ := run_append_own (P := P) w 0 t ty e i z k bytes ht hi hz hsize hby hzs hp v A.length A.flatten hown p m c N.flatten hl hnews h1 h63 hbytes (Nat.zero_le _)
      refine ⟨v', w', hr, by rw [List.length_append, List.flatten_append, hm]; exact h2, h3, ?_, h4⟩
      rcases hown.2 with ⟨rfl, h0⟩ | ⟨g, cap, cur, rfl, hbg, hg, hnc, hcm, hcs, htake⟩
      · obtain ⟨v2, w2, hr2, h5, h6, h7⟩ := run_append_own (P := P) w w.heap.size t ty e i z k bytes ht hi hz hsize hby hzs hp (.slice none 0 0) A.length A.flatten ⟨hown.1, .inl ⟨rfl, h0⟩⟩ p m c N.flatten hl hnews h1 h63 hbytes (Nat.le_refl _)
        rw [hr] at hr2
        cases hr2
        exact fun b hb => .inr (h5.lt b hb).1
      · subst hsize
        have hsmall : A.length + m ≤ 9223372036854775807 := by simp only [maxLen] at h63; omega
        by_cases hroom : A.length + m ≤ cap
        · have hfit : A.length * i.size + N.flatten.length ≤ cur.size := by rw [hl, hcs, ← Nat.add_mul]; exact Nat.mul_le_mul_right _ hroom
          have hr2 := run_append_room (P := P) w t ty e i ht hi g A.length cap cur hg p m c N.flatten hl hnews h1 hroom hfit
          rw [hr] at hr2
          cases hr2
          exact fun b hb => .inl hb
        · have holds : ∀ j u, A.flatten[j]? = some u → w.cell? ((⟨g, 0, none⟩ : Addr).add j) = some u := hown.cells (g := g) rfl
          subst hby
          have hr2 := run_append_grow (P := P) w t ty e i z ht hi hz ⟨g, 0, none⟩ A.length cap A.flatten hown.1 holds p m c N.flatten hl hnews (by omega) (by omega) (growslice_fits (by omega) hbytes)
          rw [hr] at hr2
          cases hr2
          exact fun b hb => .inr (by simp [Value.ownBlock] at hb; omega)
theorem blkOf_own {v : Value} {b : Nat} : b ∈ blkOf v ↔ v.ownBlock = some b := by
  cases v <;> simp [blkOf, Value.ownBlock]
  rename_i a _ _
  cases a <;> simp [eq_comm]
section
variable {ops : Array Oper} {rest : List Oper} {o : Oper} {a : Act} {W w : World} {Q : Exit → Act → World → Prop} {L L' : List Ent}
/-- append of structs that lie in memory onto a row. -/
theorem wpList_append {s x : Operand} {t e k bytes m c : Nat} {v : Value} {A N : List (List Value)} {p : Addr} {L' : Value → List Ent} (hO : Own W w L) (ho : o.op = .call { callee := .builtin .append, args := #[s, x], argTypes := #[t, t] })
    (ht : IsSlice P t e) (he : IsElem P e k bytes) (hs : a.eval s = v) (hx : a.eval x = .slice (some p) m c) (hat : ∀ v', At (row e k v A) (row e k v' (A ++ N)) L (L' v')) (hm : N.length = m) (hN : ∀ l ∈ N, l.length = k)
    (hnews : ∀ j u, N.flatten[j]? = some u → w.cell? (p.add j) = some u) (h1 : ∀ u ∈ N.flatten, u.oneCell' = true) (h63 : A.length + m ≤ maxLen) (hbytes : (A.length + m) * bytes ≤ 140737488355328)
    (hw : Region.wanted o (yielded ops a.tmps) = true) (h : ∀ v' w', Own W w' (L' v') → (v' = .slice none 0 0 ↔ v = .slice none 0 0 ∧ m = 0) → wpList P ops Q rest (a.put o.dst v') w') : wpList P ops Q (o :: rest) a w := by
  obtain ⟨v', w', hr, h2, h3, h4, h5⟩ := run_append_row (P := P) (ty := o.type) (c := c) ht.out he (hO.has _ (hat v).mem) hm hN hnews h1 h63 hbytes
  have hrun : (execOp a.eval o).run P w = .ok (.value v') w' := by
    unfold execOp
    simp only [ho, resolve, invoke, builtin, Sem.run_bind, Sem.run_pure, Result.andThen_ok, List.map_toArray, List.map_cons, List.map_nil, hs, hx, hr]
  refine wpList_value hw hrun (h v' w' ?_ h5)
  refine hO.turn (hat v') h3.os h3.tape h3.output h3.size (fun b hb hnb => h3.block b hb (fun e => hnb (blkOf_own.2 e.symm))) (row_ok _ _ _ _) h2 (fun b hb => ?_) (row_lt _ _ _ _ w' h2)
  rcases h4 b (blkOf_own.1 hb) with h | h
  · exact .inl (blkOf_own.2 h)
  · exact .inr h
/-- append of one struct, just laid in a block of its own. -/
theorem wpList_push1 {s x : Operand} {t e k bytes b : Nat} {v : Value} {A : List (List Value)} {l : List Value} {L' : Value → List Ent} (hO : Own W w (box b (.cells l.toArray e) :: L)) (ho : o.op = .call { callee := .builtin .append, args := #[s, x], argTypes := #[t, t] })
    (ht : IsSlice P t e) (he : IsElem P e k bytes) (hs : a.eval s = v) (hx : a.eval x = .slice (some ⟨b, 0, none⟩) 1 1) (hat : ∀ v', At (row e k v A) (row e k v' (A ++ [l])) L (L' v')) (hl : l.length = k)
    (h1 : (l.all fun u => u.oneCell') = true) (h63 : A.length + 1 ≤ 1000000) (hb : bytes ≤ 1000000)
    (hw : Region.wanted o (yielded ops a.tmps) = true) (h : ∀ v' w', Own W w' (L' v') → (∃ p n c, v' = .slice p n c) → wpList P ops Q rest (a.put o.dst v') w') : wpList P ops Q (o :: rest) a w := by
  have hbox : w.heap[b]? = some (.cells l.toArray e) := hO.has (box b (.cells l.toArray e)) List.mem_cons_self
  refine wpList_append (L' := fun v' => box b (.cells l.toArray e) :: L' v') (A := A) (N := [l]) hO ho ht he hs hx (fun v' => .tail _ _ _ (hat v')) rfl (by simpa using hl) (fun j u hu => ?_) (fun u hu => ?_) (by unfold maxLen; omega) ?_ hw (fun v' w' h2 h3 => ?_)
  · rw [addAt, Nat.zero_add, cellAt hbox]; simpa using hu
  · simp only [List.flatten_cons, List.flatten_nil, List.append_nil] at hu
    exact List.all_eq_true.1 h1 u hu
  · have := Nat.mul_le_mul h63 hb
    omega
  · refine h v' w' h2.tail ?_
    have hF : w'.ownsRow 0 e k v' (A ++ [l]).length (A ++ [l]).flatten := by
      exact h2.tail.has _ (hat v').memY
    rcases hF.2 with ⟨rfl, _⟩ | ⟨g, cap, cur, rfl, _⟩
    · exact ⟨_, _, _, rfl⟩
    · exact ⟨_, _, _, rfl⟩
/-- A slice literal. -/
theorem wpList_lit {t e n k : Nat} {parts : Array (Nat × Operand)} {cs z : Array Value} (hO : Own W w L) (ho : o.op = .buildSlice t n parts) (ht : IsSlice P t e) (hsz : HasSize P e k) (hz : ((P.info? e).bind (·.zero)).map (·.cells) = some z) (hn : n * k ≤ 1000)
    (hf : Instr.fill (fun i => some (i * k, k)) ((Array.range (n * k)).map (fun j => (if n * k = 0 then #[] else z)[j % (if n * k = 0 then #[] else z).size]!)) (parts.map fun (i, x) => (i, a.eval x)).toList = some cs)
    (hw : Region.wanted o (yielded ops a.tmps) = true) (h : ∀ b w', Own W w' (box b (.cells cs e) :: L) → wpList P ops Q rest (a.put o.dst (.slice (some ⟨b, 0, none⟩) n n)) w') : wpList P ops Q (o :: rest) a w := by
  have h1 := hsz.out
  cases hi : P.info? e with
  | none => simp [hi] at h1
  | some i =>
    have hs : i.size = k := by simpa [hi] using h1
    cases hzz : i.zero with
    | none => simp [hi, hzz] at hz
    | some zv =>
      have hzc : zv.cells = z := by simpa [hi, hzz] using hz
      have hlt : ¬ (16777216 < n * k) := by omega
      have hrun : (execOp a.eval o).run P w = .ok (.value (.slice (some ⟨w.heap.size, 0, none⟩) n n)) (w.alloc (.cells cs e)) := by
        unfold execOp
        simp only [ho, Instr.buildSlice]
        by_cases h0 : n * k = 0
        · simp only [h0, if_true] at hf
          simp at hf
          simp [underlying, ht.out, sizeOf, typeInfo, hi, hs, h0, newRow, hf]
        · simp only [h0, if_false] at hf
          simp at hf
          simp [underlying, ht.out, sizeOf, typeInfo, hi, hs, h0, zeroValue, hzz, hzc, hlt, newRow, hf]
      exact wpList_value hw hrun (h _ _ (hO.alloc _))
end

/-! Regions that draw their order. -/
noncomputable def lot (W : World) (L : List Ent) (w x : World) : World := open Classical in if Own W x L then x else w
theorem own_lot {W w : World} {L : List Ent} (h : Own W w L) (x : World) : Own W (lot W L w x) L := by
  unfold lot; split
  · assumption
  · exact h
theorem lot_of {W x : World} {L : List Ent} (w : World) (h : Own W x L) : x = lot W L w x := by unfold lot; rw [if_pos h]
/-- The worlds in which the blocks L are the call's own: those that F yields. -/
structure Fam (W : World) (L : List Ent) (F : World → World) : Prop where
  own : ∀ x, Own W (F x) L
  all : ∀ w', Own W w' L → ∃ x, w' = F x
theorem region_own {Q : Exit → Act → World → Prop} {W w : World} {L : List Ent} {id : Nat} {a : Act} {l : List Oper} (hO : Own W w L) (hm : P.follows .mixedOrders = true) (hB : Region.lexB .any l.toArray = true)
    (h : ∀ F : World → World, Fam W L F → wpQuiet P l.toArray (fun w' => ∃ x, w' = F x) (fun a' => ∀ x, Q .normal a' (F x)) l a) : (Code.region id l.toArray true).wp P Q a w := by
  have hF : Fam W L (lot W L w) := ⟨own_lot hO, fun w' hw' => ⟨w', lot_of w hw'⟩⟩
  refine wp_region_quiet (C := fun w' => ∃ x, w' = lot W L w x) hm hB (hF.all _ hO.drew) ?_
  have h' := h _ hF
  have e : (fun a' => ∀ x, Q .normal a' (lot W L w x)) = (fun a' => ∀ w', (∃ x, w' = lot W L w x) → Q .normal a' w') := by
    funext a'
    exact propext ⟨fun hh w' ⟨x, hx⟩ => hx ▸ hh x, fun hh x => hh _ ⟨x, rfl⟩⟩
  rw [e] at h'
  simpa using h'
theorem calls_fam {W x : World} {L : List Ent} {F : World → World} {f : FuncId} {args : Array Value} {v : Value} (hF : Fam W L F)
    (h : Calls P f args (F x) fun e w' => e = .returned v ∧ Below (F x).heap.size (F x) w') :
    Calls P f args (F x) fun e w'' => e = .returned v ∧ ∃ y, w'' = F y :=
  h.mono fun _ _ ⟨he, hw⟩ => ⟨he, hF.all _ ((hF.own x).call hw)⟩
section
variable {ops : Array Oper} {rest : List Oper} {o : Oper} {a : Act} {W : World} {F : World → World} {Q : Act → Prop} {L L' : List Ent}
theorem wpQuiet_value {v : Value} {C : World → Prop} (hw : Region.wanted o (yielded ops a.tmps) = true) (hr : ∀ w', C w' → (execOp a.eval o).run P w' = .ok (.value v) w') (h : wpQuiet P ops C Q rest (a.put o.dst v)) :
    wpQuiet P ops C Q (o :: rest) a := by
  unfold wpQuiet
  rw [if_pos hw]
  refine ⟨v, fun w' hw' => ?_, h⟩
  unfold Oper.quietAt
  rw [hr w' hw']
  exact ⟨rfl, rfl⟩
theorem wpQuiet_loadAll {b n : Nat} {cs : List Value} {T t : TypeId} (hF : Fam W L F) {x : Operand} (ho : o.op = .load t x) (hx : a.eval x = .pointer (some ⟨b, 0, none⟩)) (hat : At (box b (.cells cs.toArray T)) (box b (.cells cs.toArray T)) L L')
    (ht : IsAgg P t n) (hn : cs.length = n) (hw : Region.wanted o (yielded ops a.tmps) = true) (h : wpQuiet P ops (fun w' => ∃ x, w' = F x) Q rest (a.put o.dst (.agg cs.toArray))) : wpQuiet P ops (fun w' => ∃ x, w' = F x) Q (o :: rest) a :=
  wpQuiet_value (v := .agg cs.toArray) hw (fun w' ⟨y, hy⟩ => by
    rw [run_load_agg (hy ▸ hF.own y) x ho hx hat ht.out (by omega), List.drop_zero, List.take_of_length_le (by omega)]) h
theorem wpQuiet_loadPart {b off n : Nat} {cs l : List Value} {T t : TypeId} (hF : Fam W L F) {x : Operand} (ho : o.op = .load t x) (hx : a.eval x = .pointer (some ⟨b, off, none⟩)) (hat : At (box b (.cells cs.toArray T)) (box b (.cells cs.toArray T)) L L')
    (ht : IsAgg P t n) (hn : off + n ≤ cs.length) (hl : (cs.drop off).take n = l) (hw : Region.wanted o (yielded ops a.tmps) = true) (h : wpQuiet P ops (fun w' => ∃ x, w' = F x) Q rest (a.put o.dst (.agg l.toArray))) :
    wpQuiet P ops (fun w' => ∃ x, w' = F x) Q (o :: rest) a :=
  wpQuiet_value (v := .agg l.toArray) hw (fun _ ⟨y, hy⟩ => by rw [run_load_agg (hy ▸ hF.own y) x ho hx hat ht.out hn, hl]) h
theorem wpQuiet_loadOne {b off : Nat} {cs : List Value} {v : Value} {T t : TypeId} (hF : Fam W L F) {x : Operand} (ho : o.op = .load t x) (hx : a.eval x = .pointer (some ⟨b, off, none⟩)) (hat : At (box b (.cells cs.toArray T)) (box b (.cells cs.toArray T)) L L')
    (hv : cs[off]? = some v) (ht : IsOne P t) (hw : Region.wanted o (yielded ops a.tmps) = true) (h : wpQuiet P ops (fun w' => ∃ x, w' = F x) Q rest (a.put o.dst v)) : wpQuiet P ops (fun w' => ∃ x, w' = F x) Q (o :: rest) a :=
  wpQuiet_value (v := v) hw (fun _ ⟨y, hy⟩ => run_load_one (hy ▸ hF.own y) x ho hx hat ht.out hv) h
theorem wpQuiet_loadOld {p : Addr} {l : List Value} {t : TypeId} (hF : Fam W L F) {x : Operand} (ho : o.op = .load t x) (hx : a.eval x = .pointer (some p)) (hp : p.block < W.heap.size) (hl : ∀ j v, l[j]? = some v → W.cell? (p.add j) = some v)
    (ht : IsAgg P t l.length) (hw : Region.wanted o (yielded ops a.tmps) = true) (h : wpQuiet P ops (fun w' => ∃ x, w' = F x) Q rest (a.put o.dst (.agg l.toArray))) : wpQuiet P ops (fun w' => ∃ x, w' = F x) Q (o :: rest) a :=
  wpQuiet_value (v := .agg l.toArray) hw (fun _ ⟨y, hy⟩ => run_load_old (hy ▸ hF.own y) x ho hx hp hl ht.out) h
theorem wpQuiet_loadOld1 {p : Addr} {v : Value} {t : TypeId} (hF : Fam W L F) {x : Operand} (ho : o.op = .load t x) (hx : a.eval x = .pointer (some p)) (hp : p.block < W.heap.size) (hl : W.cell? p = some v)
    (ht : IsOne P t) (hw : Region.wanted o (yielded ops a.tmps) = true) (h : wpQuiet P ops (fun w' => ∃ x, w' = F x) Q rest (a.put o.dst v)) : wpQuiet P ops (fun w' => ∃ x, w' = F x) Q (o :: rest) a :=
  wpQuiet_value (v := v) hw (fun _ ⟨y, hy⟩ => run_load_old1 (hy ▸ hF.own y) x ho hx hp hl ht.out) h
end
end
end Own
end Go
namespace Go.Proofs.YtibabfedpdoofaaDoor
open Go.Own
instance : IsOne Tryd.prog 25 := ⟨by kernel_rfl⟩
instance : HasSize Tryd.prog 25 1 := ⟨by kernel_rfl⟩
instance : IsElem Tryd.prog 25 1 8 := ⟨by kernel_rfl, by decide⟩
instance : HasZero Tryd.prog 25 (.pointer none) := ⟨by kernel_rfl⟩
instance : IsOne Tryd.prog 74 := ⟨by kernel_rfl⟩
instance : HasSize Tryd.prog 74 1 := ⟨by kernel_rfl⟩
instance : IsElem Tryd.prog 74 1 8 := ⟨by kernel_rfl, by decide⟩
instance : HasZero Tryd.prog 74 (.pointer none) := ⟨by kernel_rfl⟩
instance : IsOne Tryd.prog 89 := ⟨by kernel_rfl⟩
instance : HasSize Tryd.prog 89 1 := ⟨by kernel_rfl⟩
instance : IsElem Tryd.prog 89 1 8 := ⟨by kernel_rfl, by decide⟩
instance : HasZero Tryd.prog 89 (.pointer none) := ⟨by kernel_rfl⟩
instance : IsOne Tryd.prog 27 := ⟨by kernel_rfl⟩
instance : HasSize Tryd.prog 27 1 := ⟨by kernel_rfl⟩
instance : IsElem Tryd.prog 27 1 8 := ⟨by kernel_rfl, by decide⟩
instance : HasZero Tryd.prog 27 (.pointer none) := ⟨by kernel_rfl⟩
instance : IsOne Tryd.prog 183 := ⟨by kernel_rfl⟩
instance : HasSize Tryd.prog 183 1 := ⟨by kernel_rfl⟩
instance : IsElem Tryd.prog 183 1 8 := ⟨by kernel_rfl, by decide⟩
instance : HasZero Tryd.prog 183 (.pointer none) := ⟨by kernel_rfl⟩
instance : IsAgg Tryd.prog 163 20 := ⟨by kernel_rfl⟩
instance : HasSize Tryd.prog 163 20 := ⟨by kernel_rfl⟩
instance : IsElem Tryd.prog 163 20 160 := ⟨by kernel_rfl, by decide⟩
instance : HasZero Tryd.prog 163 (.agg #[.int .u64 0, .int .u64 0, .int .u64 0, .int .u64 0, .int .u64 0, .int .u64 0, .int .u64 0, .int .u64 0, .int .u64 0, .int .u64 0, .int .u64 0, .int .u64 0, .int .u64 0, .int .u64 0, .int .u64 0, .int .u64 0, .int .u64 0, .int .u64 0, .int .u64 0, .int .u64 0]) := ⟨by kernel_rfl⟩
instance : IsAgg Tryd.prog 156 24 := ⟨by kernel_rfl⟩
instance : HasSize Tryd.prog 156 24 := ⟨by kernel_rfl⟩
instance : IsElem Tryd.prog 156 24 24 := ⟨by kernel_rfl, by decide⟩
instance : HasZero Tryd.prog 156 (.agg #[.int .u8 0, .int .u8 0, .int .u8 0, .int .u8 0, .int .u8 0, .int .u8 0, .int .u8 0, .int .u8 0, .int .u8 0, .int .u8 0, .int .u8 0, .int .u8 0, .int .u8 0, .int .u8 0, .int .u8 0, .int .u8 0, .int .u8 0, .int .u8 0, .int .u8 0, .int .u8 0, .int .u8 0, .int .u8 0, .int .u8 0, .int .u8 0]) := ⟨by kernel_rfl⟩
instance : IsAgg Tryd.prog 142 2 := ⟨by kernel_rfl⟩
instance : HasSize Tryd.prog 142 2 := ⟨by kernel_rfl⟩
instance : IsElem Tryd.prog 142 2 16 := ⟨by kernel_rfl, by decide⟩
instance : HasZero Tryd.prog 142 (.agg #[.int .i64 0, .int .i64 0]) := ⟨by kernel_rfl⟩
instance : IsAgg Tryd.prog 172 32 := ⟨by kernel_rfl⟩
instance : HasSize Tryd.prog 172 32 := ⟨by kernel_rfl⟩
instance : IsElem Tryd.prog 172 32 32 := ⟨by kernel_rfl, by decide⟩
instance : HasZero Tryd.prog 172 (.agg #[.int .u8 0, .int .u8 0, .int .u8 0, .int .u8 0, .int .u8 0, .int .u8 0, .int .u8 0, .int .u8 0, .int .u8 0, .int .u8 0, .int .u8 0, .int .u8 0, .int .u8 0, .int .u8 0, .int .u8 0, .int .u8 0, .int .u8 0, .int .u8 0, .int .u8 0, .int .u8 0, .int .u8 0, .int .u8 0, .int .u8 0, .int .u8 0, .int .u8 0, .int .u8 0, .int .u8 0, .int .u8 0, .int .u8 0, .int .u8 0, .int .u8 0, .int .u8 0]) := ⟨by kernel_rfl⟩
instance : IsAgg Tryd.prog 77 9 := ⟨by kernel_rfl⟩
instance : HasSize Tryd.prog 77 9 := ⟨by kernel_rfl⟩
instance : IsElem Tryd.prog 77 9 120 := ⟨by kernel_rfl, by decide⟩
instance : HasZero Tryd.prog 77 (.agg #[.int .i64 0, .int .i64 0, .slice none 0 0, .int .i64 0, .int .i64 0, .slice none 0 0, .int .i64 0, .int .i64 0, .slice none 0 0]) := ⟨by kernel_rfl⟩
instance : IsAgg Tryd.prog 29 61 := ⟨by kernel_rfl⟩
instance : HasSize Tryd.prog 29 61 := ⟨by kernel_rfl⟩
instance : IsElem Tryd.prog 29 61 488 := ⟨by kernel_rfl, by decide⟩
instance : HasZero Tryd.prog 29 (.agg #[.int .i64 0, .int .i64 0, .int .i64 0, .int .i64 0, .int .i64 0, .int .i64 0, .int .i64 0, .int .i64 0, .int .i64 0, .int .i64 0, .int .i64 0, .int .i64 0, .int .i64 0, .int .i64 0, .int .i64 0, .int .i64 0, .int .i64 0, .int .i64 0, .int .i64 0, .int .i64 0, .int .i64 0, .int .i64 0, .int .i64 0, .int .i64 0, .int .i64 0, .int .i64 0, .int .i64 0, .int .i64 0, .int .i64 0, .int .i64 0, .int .i64 0, .int .i64 0, .int .i64 0, .int .i64 0, .int .i64 0, .int .i64 0, .int .i64 0, .int .i64 0, .int .i64 0, .int .i64 0, .int .i64 0, .int .i64 0, .int .i64 0, .int .i64 0, .int .i64 0, .int .i64 0, .int .i64 0, .int .i64 0, .int .i64 0, .int .i64 0, .int .i64 0, .int .i64 0, .int .i64 0, .int .i64 0, .int .i64 0, .int .i64 0, .int .i64 0, .int .i64 0, .int .i64 0, .int .i64 0, .int .i64 0]) := ⟨by kernel_rfl⟩
instance : IsAgg Tryd.prog 173 64 := ⟨by kernel_rfl⟩
instance : HasSize Tryd.prog 173 64 := ⟨by kernel_rfl⟩
instance : IsElem Tryd.prog 173 64 64 := ⟨by kernel_rfl, by decide⟩
instance : HasZero Tryd.prog 173 (.agg #[.int .u8 0, .int .u8 0, .int .u8 0, .int .u8 0, .int .u8 0, .int .u8 0, .int .u8 0, .int .u8 0, .int .u8 0, .int .u8 0, .int .u8 0, .int .u8 0, .int .u8 0, .int .u8 0, .int .u8 0, .int .u8 0, .int .u8 0, .int .u8 0, .int .u8 0, .int .u8 0, .int .u8 0, .int .u8 0, .int .u8 0, .int .u8 0, .int .u8 0, .int .u8 0, .int .u8 0, .int .u8 0, .int .u8 0, .int .u8 0, .int .u8 0, .int .u8 0, .int .u8 0, .int .u8 0, .int .u8 0, .int .u8 0, .int .u8 0, .int .u8 0, .int .u8 0, .int .u8 0, .int .u8 0, .int .u8 0, .int .u8 0, .int .u8 0, .int .u8 0, .int .u8 0, .int .u8 0, .int .u8 0, .int .u8 0, .int .u8 0, .int .u8 0, .int .u8 0, .int .u8 0, .int .u8 0, .int .u8 0, .int .u8 0, .int .u8 0, .int .u8 0, .int .u8 0, .int .u8 0, .int .u8 0, .int .u8 0, .int .u8 0, .int .u8 0]) := ⟨by kernel_rfl⟩
instance : IsAgg Tryd.prog 165 65 := ⟨by kernel_rfl⟩
instance : HasSize Tryd.prog 165 65 := ⟨by kernel_rfl⟩
instance : IsElem Tryd.prog 165 65 65 := ⟨by kernel_rfl, by decide⟩
instance : HasZero Tryd.prog 165 (.agg #[.int .u8 0, .int .u8 0, .int .u8 0, .int .u8 0, .int .u8 0, .int .u8 0, .int .u8 0, .int .u8 0, .int .u8 0, .int .u8 0, .int .u8 0, .int .u8 0, .int .u8 0, .int .u8 0, .int .u8 0, .int .u8 0, .int .u8 0, .int .u8 0, .int .u8 0, .int .u8 0, .int .u8 0, .int .u8 0, .int .u8 0, .int .u8 0, .int .u8 0, .int .u8 0, .int .u8 0, .int .u8 0, .int .u8 0, .int .u8 0, .int .u8 0, .int .u8 0, .int .u8 0, .int .u8 0, .int .u8 0, .int .u8 0, .int .u8 0, .int .u8 0, .int .u8 0, .int .u8 0, .int .u8 0, .int .u8 0, .int .u8 0, .int .u8 0, .int .u8 0, .int .u8 0, .int .u8 0, .int .u8 0, .int .u8 0, .int .u8 0, .int .u8 0, .int .u8 0, .int .u8 0, .int .u8 0, .int .u8 0, .int .u8 0, .int .u8 0, .int .u8 0, .int .u8 0, .int .u8 0, .int .u8 0, .int .u8 0, .int .u8 0, .int .u8 0, .int .u8 0]) := ⟨by kernel_rfl⟩
instance : IsAgg Tryd.prog 50 6 := ⟨by kernel_rfl⟩
instance : HasSize Tryd.prog 50 6 := ⟨by kernel_rfl⟩
instance : IsElem Tryd.prog 50 6 48 := ⟨by kernel_rfl, by decide⟩
instance : HasZero Tryd.prog 50 (.agg #[.int .i64 0, .int .i64 0, .int .i64 0, .int .i64 0, .int .i64 0, .int .i64 0]) := ⟨by kernel_rfl⟩
instance : IsAgg Tryd.prog 169 6 := ⟨by kernel_rfl⟩
instance : HasSize Tryd.prog 169 6 := ⟨by kernel_rfl⟩
instance : IsElem Tryd.prog 169 6 96 := ⟨by kernel_rfl, by decide⟩
instance : HasZero Tryd.prog 169 (.agg #[.string ⟨#[]⟩, .string ⟨#[]⟩, .string ⟨#[]⟩, .string ⟨#[]⟩, .string ⟨#[]⟩, .string ⟨#[]⟩]) := ⟨by kernel_rfl⟩
instance : IsOne Tryd.prog 42 := ⟨by kernel_rfl⟩
instance : HasSize Tryd.prog 42 1 := ⟨by kernel_rfl⟩
instance : IsElem Tryd.prog 42 1 24 := ⟨by kernel_rfl, by decide⟩
instance : IsSlice Tryd.prog 42 47 := ⟨by kernel_rfl⟩
instance : HasZero Tryd.prog 42 (.slice none 0 0) := ⟨by kernel_rfl⟩
instance : IsOne Tryd.prog 22 := ⟨by kernel_rfl⟩
instance : HasSize Tryd.prog 22 1 := ⟨by kernel_rfl⟩
instance : IsElem Tryd.prog 22 1 24 := ⟨by kernel_rfl, by decide⟩
instance : IsSlice Tryd.prog 22 40 := ⟨by kernel_rfl⟩
instance : HasZero Tryd.prog 22 (.slice none 0 0) := ⟨by kernel_rfl⟩
instance : IsOne Tryd.prog 100 := ⟨by kernel_rfl⟩
instance : HasSize Tryd.prog 100 1 := ⟨by kernel_rfl⟩
instance : IsElem Tryd.prog 100 1 24 := ⟨by kernel_rfl, by decide⟩
instance : IsSlice Tryd.prog 100 111 := ⟨by kernel_rfl⟩
instance : HasZero Tryd.prog 100 (.slice none 0 0) := ⟨by kernel_rfl⟩
instance : IsOne Tryd.prog 36 := ⟨by kernel_rfl⟩
instance : HasSize Tryd.prog 36 1 := ⟨by kernel_rfl⟩
instance : IsElem Tryd.prog 36 1 24 := ⟨by kernel_rfl, by decide⟩
instance : IsSlice Tryd.prog 36 73 := ⟨by kernel_rfl⟩
instance : HasZero Tryd.prog 36 (.slice none 0 0) := ⟨by kernel_rfl⟩
instance : IsOne Tryd.prog 128 := ⟨by kernel_rfl⟩
instance : HasSize Tryd.prog 128 1 := ⟨by kernel_rfl⟩
instance : IsElem Tryd.prog 128 1 24 := ⟨by kernel_rfl, by decide⟩
instance : IsSlice Tryd.prog 128 133 := ⟨by kernel_rfl⟩
instance : HasZero Tryd.prog 128 (.slice none 0 0) := ⟨by kernel_rfl⟩
instance : IsOne Tryd.prog 57 := ⟨by kernel_rfl⟩
instance : HasSize Tryd.prog 57 1 := ⟨by kernel_rfl⟩
instance : IsElem Tryd.prog 57 1 24 := ⟨by kernel_rfl, by decide⟩
instance : IsSlice Tryd.prog 57 3 := ⟨by kernel_rfl⟩
instance : HasZero Tryd.prog 57 (.slice none 0 0) := ⟨by kernel_rfl⟩
instance : IsOne Tryd.prog 76 := ⟨by kernel_rfl⟩
instance : HasSize Tryd.prog 76 1 := ⟨by kernel_rfl⟩
instance : IsElem Tryd.prog 76 1 24 := ⟨by kernel_rfl, by decide⟩
instance : IsSlice Tryd.prog 76 52 := ⟨by kernel_rfl⟩
instance : HasZero Tryd.prog 76 (.slice none 0 0) := ⟨by kernel_rfl⟩
instance : IsOne Tryd.prog 49 := ⟨by kernel_rfl⟩
instance : HasSize Tryd.prog 49 1 := ⟨by kernel_rfl⟩
instance : IsElem Tryd.prog 49 1 24 := ⟨by kernel_rfl, by decide⟩
instance : IsSlice Tryd.prog 49 5 := ⟨by kernel_rfl⟩
instance : HasZero Tryd.prog 49 (.slice none 0 0) := ⟨by kernel_rfl⟩
instance : IsOne Tryd.prog 4 := ⟨by kernel_rfl⟩
instance : HasSize Tryd.prog 4 1 := ⟨by kernel_rfl⟩
instance : IsElem Tryd.prog 4 1 1 := ⟨by kernel_rfl, by decide⟩
instance : HasZero Tryd.prog 4 (.bool false) := ⟨by kernel_rfl⟩
instance : IsAgg Tryd.prog 69 3 := ⟨by kernel_rfl⟩
instance : HasSize Tryd.prog 69 3 := ⟨by kernel_rfl⟩
instance : IsElem Tryd.prog 69 3 40 := ⟨by kernel_rfl, by decide⟩
instance : HasZero Tryd.prog 69 (.agg #[.bool false, .int .i64 0, .slice none 0 0]) := ⟨by kernel_rfl⟩
instance : IsAgg Tryd.prog 47 3 := ⟨by kernel_rfl⟩
instance : HasSize Tryd.prog 47 3 := ⟨by kernel_rfl⟩
instance : IsElem Tryd.prog 47 3 24 := ⟨by kernel_rfl, by decide⟩
instance : HasZero Tryd.prog 47 (.agg #[.int .i64 0, .int .i64 0, .int .i64 0]) := ⟨by kernel_rfl⟩
instance : IsAgg Tryd.prog 40 12 := ⟨by kernel_rfl⟩
instance : HasSize Tryd.prog 40 12 := ⟨by kernel_rfl⟩
instance : IsElem Tryd.prog 40 12 128 := ⟨by kernel_rfl, by decide⟩
instance : HasZero Tryd.prog 40 (.agg #[.int .i64 0, .int .i64 0, .string ⟨#[]⟩, .string ⟨#[]⟩, .int .i64 0, .int .i64 0, .int .i64 0, .int .i64 0, .int .i64 0, .int .i64 0, .int .i64 0, .slice none 0 0]) := ⟨by kernel_rfl⟩
instance : IsOne Tryd.prog 30 := ⟨by kernel_rfl⟩
instance : HasSize Tryd.prog 30 1 := ⟨by kernel_rfl⟩
instance : IsElem Tryd.prog 30 1 8 := ⟨by kernel_rfl, by decide⟩
instance : HasZero Tryd.prog 30 (.int .i64 0) := ⟨by kernel_rfl⟩
instance : IsAgg Tryd.prog 35 2 := ⟨by kernel_rfl⟩
instance : HasSize Tryd.prog 35 2 := ⟨by kernel_rfl⟩
instance : IsElem Tryd.prog 35 2 16 := ⟨by kernel_rfl, by decide⟩
instance : HasZero Tryd.prog 35 (.agg #[.int .i64 0, .int .i64 0]) := ⟨by kernel_rfl⟩
instance : IsAgg Tryd.prog 33 5 := ⟨by kernel_rfl⟩
instance : HasSize Tryd.prog 33 5 := ⟨by kernel_rfl⟩
instance : IsElem Tryd.prog 33 5 56 := ⟨by kernel_rfl, by decide⟩
instance : HasZero Tryd.prog 33 (.agg #[.int .i64 0, .string ⟨#[]⟩, .string ⟨#[]⟩, .int .i64 0, .int .i64 0]) := ⟨by kernel_rfl⟩
instance : IsAgg Tryd.prog 111 5 := ⟨by kernel_rfl⟩
instance : HasSize Tryd.prog 111 5 := ⟨by kernel_rfl⟩
instance : IsElem Tryd.prog 111 5 48 := ⟨by kernel_rfl, by decide⟩
instance : HasZero Tryd.prog 111 (.agg #[.string ⟨#[]⟩, .int .i64 0, .int .i64 0, .int .i64 0, .int .i64 0]) := ⟨by kernel_rfl⟩
instance : IsAgg Tryd.prog 73 5 := ⟨by kernel_rfl⟩
instance : HasSize Tryd.prog 73 5 := ⟨by kernel_rfl⟩
instance : IsElem Tryd.prog 73 5 40 := ⟨by kernel_rfl, by decide⟩
instance : HasZero Tryd.prog 73 (.agg #[.int .i64 0, .int .i64 0, .int .i64 0, .int .i64 0, .int .i64 0]) := ⟨by kernel_rfl⟩
instance : IsAgg Tryd.prog 38 3 := ⟨by kernel_rfl⟩
instance : HasSize Tryd.prog 38 3 := ⟨by kernel_rfl⟩
instance : IsElem Tryd.prog 38 3 40 := ⟨by kernel_rfl, by decide⟩
instance : HasZero Tryd.prog 38 (.agg #[.int .i64 0, .int .i64 0, .slice none 0 0]) := ⟨by kernel_rfl⟩
instance : IsAgg Tryd.prog 102 3 := ⟨by kernel_rfl⟩
instance : HasSize Tryd.prog 102 3 := ⟨by kernel_rfl⟩
instance : IsElem Tryd.prog 102 3 40 := ⟨by kernel_rfl, by decide⟩
instance : HasZero Tryd.prog 102 (.agg #[.slice none 0 0, .map none, .map none]) := ⟨by kernel_rfl⟩
instance : IsAgg Tryd.prog 117 2 := ⟨by kernel_rfl⟩
instance : HasSize Tryd.prog 117 2 := ⟨by kernel_rfl⟩
instance : IsElem Tryd.prog 117 2 16 := ⟨by kernel_rfl, by decide⟩
instance : HasZero Tryd.prog 117 (.agg #[.int .i64 0, .int .i64 0]) := ⟨by kernel_rfl⟩
instance : IsAgg Tryd.prog 133 12 := ⟨by kernel_rfl⟩
instance : HasSize Tryd.prog 133 12 := ⟨by kernel_rfl⟩
instance : IsElem Tryd.prog 133 12 112 := ⟨by kernel_rfl, by decide⟩
instance : HasZero Tryd.prog 133 (.agg #[.int .i64 0, .string ⟨#[]⟩, .string ⟨#[]⟩, .int .i64 0, .int .i64 0, .int .i64 0, .int .i64 0, .int .i64 0, .int .i64 0, .int .i64 0, .int .i64 0, .bool false]) := ⟨by kernel_rfl⟩
instance : IsAgg Tryd.prog 130 9 := ⟨by kernel_rfl⟩
instance : HasSize Tryd.prog 130 9 := ⟨by kernel_rfl⟩
instance : IsElem Tryd.prog 130 9 120 := ⟨by kernel_rfl, by decide⟩
instance : HasZero Tryd.prog 130 (.agg #[.int .i64 0, .int .i64 0, .slice none 0 0, .int .i64 0, .int .i64 0, .slice none 0 0, .int .i64 0, .int .i64 0, .slice none 0 0]) := ⟨by kernel_rfl⟩
instance : IsAgg Tryd.prog 132 11 := ⟨by kernel_rfl⟩
instance : HasSize Tryd.prog 132 11 := ⟨by kernel_rfl⟩
instance : IsElem Tryd.prog 132 11 168 := ⟨by kernel_rfl, by decide⟩
instance : HasZero Tryd.prog 132 (.agg #[.slice none 0 0, .slice none 0 0, .int .i64 0, .int .i64 0, .slice none 0 0, .int .i64 0, .int .i64 0, .slice none 0 0, .int .i64 0, .int .i64 0, .slice none 0 0]) := ⟨by kernel_rfl⟩
instance : IsAgg Tryd.prog 82 12 := ⟨by kernel_rfl⟩
instance : HasSize Tryd.prog 82 12 := ⟨by kernel_rfl⟩
instance : IsElem Tryd.prog 82 12 160 := ⟨by kernel_rfl, by decide⟩
instance : HasZero Tryd.prog 82 (.agg #[.slice none 0 0, .pointer none, .int .i64 0, .int .i64 0, .slice none 0 0, .int .i64 0, .int .i64 0, .slice none 0 0, .int .i64 0, .int .i64 0, .slice none 0 0, .map none]) := ⟨by kernel_rfl⟩
instance : IsAgg Tryd.prog 80 10 := ⟨by kernel_rfl⟩
instance : HasSize Tryd.prog 80 10 := ⟨by kernel_rfl⟩
instance : IsElem Tryd.prog 80 10 128 := ⟨by kernel_rfl, by decide⟩
instance : HasZero Tryd.prog 80 (.agg #[.int .i64 0, .int .i64 0, .slice none 0 0, .int .i64 0, .int .i64 0, .slice none 0 0, .int .i64 0, .int .i64 0, .slice none 0 0, .map none]) := ⟨by kernel_rfl⟩
instance : IsAgg Tryd.prog 52 12 := ⟨by kernel_rfl⟩
instance : HasSize Tryd.prog 52 12 := ⟨by kernel_rfl⟩
instance : IsElem Tryd.prog 52 12 112 := ⟨by kernel_rfl, by decide⟩
instance : HasZero Tryd.prog 52 (.agg #[.int .i64 0, .string ⟨#[]⟩, .string ⟨#[]⟩, .int .i64 0, .int .i64 0, .int .i64 0, .int .i64 0, .int .i64 0, .int .i64 0, .int .i64 0, .int .i64 0, .bool false]) := ⟨by kernel_rfl⟩
instance : IsOne Tryd.prog 3 := ⟨by kernel_rfl⟩
instance : HasSize Tryd.prog 3 1 := ⟨by kernel_rfl⟩
instance : IsElem Tryd.prog 3 1 8 := ⟨by kernel_rfl, by decide⟩
instance : HasZero Tryd.prog 3 (.int .i64 0) := ⟨by kernel_rfl⟩
instance : IsOne Tryd.prog 21 := ⟨by kernel_rfl⟩
instance : HasSize Tryd.prog 21 1 := ⟨by kernel_rfl⟩
instance : IsElem Tryd.prog 21 1 4 := ⟨by kernel_rfl, by decide⟩
instance : HasZero Tryd.prog 21 (.int .i32 0) := ⟨by kernel_rfl⟩
instance : IsOne Tryd.prog 2 := ⟨by kernel_rfl⟩
instance : HasSize Tryd.prog 2 1 := ⟨by kernel_rfl⟩
instance : IsElem Tryd.prog 2 1 8 := ⟨by kernel_rfl, by decide⟩
instance : HasZero Tryd.prog 2 (.int .i64 0) := ⟨by kernel_rfl⟩
instance : IsOne Tryd.prog 78 := ⟨by kernel_rfl⟩
instance : HasSize Tryd.prog 78 1 := ⟨by kernel_rfl⟩
instance : IsElem Tryd.prog 78 1 8 := ⟨by kernel_rfl, by decide⟩
instance : HasZero Tryd.prog 78 (.map none) := ⟨by kernel_rfl⟩
instance : IsOne Tryd.prog 99 := ⟨by kernel_rfl⟩
instance : HasSize Tryd.prog 99 1 := ⟨by kernel_rfl⟩
instance : IsElem Tryd.prog 99 1 8 := ⟨by kernel_rfl, by decide⟩
instance : HasZero Tryd.prog 99 (.map none) := ⟨by kernel_rfl⟩
instance : IsOne Tryd.prog 98 := ⟨by kernel_rfl⟩
instance : HasSize Tryd.prog 98 1 := ⟨by kernel_rfl⟩
instance : IsElem Tryd.prog 98 1 8 := ⟨by kernel_rfl, by decide⟩
instance : HasZero Tryd.prog 98 (.map none) := ⟨by kernel_rfl⟩
instance : IsOne Tryd.prog 144 := ⟨by kernel_rfl⟩
instance : HasSize Tryd.prog 144 1 := ⟨by kernel_rfl⟩
instance : IsElem Tryd.prog 144 1 8 := ⟨by kernel_rfl, by decide⟩
instance : HasZero Tryd.prog 144 (.map none) := ⟨by kernel_rfl⟩
instance : IsOne Tryd.prog 9 := ⟨by kernel_rfl⟩
instance : HasSize Tryd.prog 9 1 := ⟨by kernel_rfl⟩
instance : IsElem Tryd.prog 9 1 16 := ⟨by kernel_rfl, by decide⟩
instance : HasZero Tryd.prog 9 (.string ⟨#[]⟩) := ⟨by kernel_rfl⟩
instance : IsAgg Tryd.prog 32 5 := ⟨by kernel_rfl⟩
instance : HasSize Tryd.prog 32 5 := ⟨by kernel_rfl⟩
instance : IsElem Tryd.prog 32 5 56 := ⟨by kernel_rfl, by decide⟩
instance : HasZero Tryd.prog 32 (.agg #[.int .i64 0, .string ⟨#[]⟩, .string ⟨#[]⟩, .int .i64 0, .int .i64 0]) := ⟨by kernel_rfl⟩
instance : IsAgg Tryd.prog 110 5 := ⟨by kernel_rfl⟩
instance : HasSize Tryd.prog 110 5 := ⟨by kernel_rfl⟩
instance : IsElem Tryd.prog 110 5 48 := ⟨by kernel_rfl, by decide⟩
instance : HasZero Tryd.prog 110 (.agg #[.string ⟨#[]⟩, .int .i64 0, .int .i64 0, .int .i64 0, .int .i64 0]) := ⟨by kernel_rfl⟩
instance : IsAgg Tryd.prog 72 5 := ⟨by kernel_rfl⟩
instance : HasSize Tryd.prog 72 5 := ⟨by kernel_rfl⟩
instance : IsElem Tryd.prog 72 5 40 := ⟨by kernel_rfl, by decide⟩
instance : HasZero Tryd.prog 72 (.agg #[.int .i64 0, .int .i64 0, .int .i64 0, .int .i64 0, .int .i64 0]) := ⟨by kernel_rfl⟩
instance : IsAgg Tryd.prog 39 12 := ⟨by kernel_rfl⟩
instance : HasSize Tryd.prog 39 12 := ⟨by kernel_rfl⟩
instance : IsElem Tryd.prog 39 12 128 := ⟨by kernel_rfl, by decide⟩
instance : HasZero Tryd.prog 39 (.agg #[.int .i64 0, .int .i64 0, .string ⟨#[]⟩, .string ⟨#[]⟩, .int .i64 0, .int .i64 0, .int .i64 0, .int .i64 0, .int .i64 0, .int .i64 0, .int .i64 0, .slice none 0 0]) := ⟨by kernel_rfl⟩
instance : IsAgg Tryd.prog 129 9 := ⟨by kernel_rfl⟩
instance : HasSize Tryd.prog 129 9 := ⟨by kernel_rfl⟩
instance : IsElem Tryd.prog 129 9 120 := ⟨by kernel_rfl, by decide⟩
instance : HasZero Tryd.prog 129 (.agg #[.int .i64 0, .int .i64 0, .slice none 0 0, .int .i64 0, .int .i64 0, .slice none 0 0, .int .i64 0, .int .i64 0, .slice none 0 0]) := ⟨by kernel_rfl⟩
instance : IsAgg Tryd.prog 131 11 := ⟨by kernel_rfl⟩
instance : HasSize Tryd.prog 131 11 := ⟨by kernel_rfl⟩
instance : IsElem Tryd.prog 131 11 168 := ⟨by kernel_rfl, by decide⟩
instance : HasZero Tryd.prog 131 (.agg #[.slice none 0 0, .slice none 0 0, .int .i64 0, .int .i64 0, .slice none 0 0, .int .i64 0, .int .i64 0, .slice none 0 0, .int .i64 0, .int .i64 0, .slice none 0 0]) := ⟨by kernel_rfl⟩
instance : IsAgg Tryd.prog 51 12 := ⟨by kernel_rfl⟩
instance : HasSize Tryd.prog 51 12 := ⟨by kernel_rfl⟩
instance : IsElem Tryd.prog 51 12 112 := ⟨by kernel_rfl, by decide⟩
instance : HasZero Tryd.prog 51 (.agg #[.int .i64 0, .string ⟨#[]⟩, .string ⟨#[]⟩, .int .i64 0, .int .i64 0, .int .i64 0, .int .i64 0, .int .i64 0, .int .i64 0, .int .i64 0, .int .i64 0, .bool false]) := ⟨by kernel_rfl⟩
instance : IsAgg Tryd.prog 34 2 := ⟨by kernel_rfl⟩
instance : HasSize Tryd.prog 34 2 := ⟨by kernel_rfl⟩
instance : IsElem Tryd.prog 34 2 16 := ⟨by kernel_rfl, by decide⟩
instance : HasZero Tryd.prog 34 (.agg #[.int .i64 0, .int .i64 0]) := ⟨by kernel_rfl⟩
instance : IsAgg Tryd.prog 46 3 := ⟨by kernel_rfl⟩
instance : HasSize Tryd.prog 46 3 := ⟨by kernel_rfl⟩
instance : IsElem Tryd.prog 46 3 24 := ⟨by kernel_rfl, by decide⟩
instance : HasZero Tryd.prog 46 (.agg #[.int .i64 0, .int .i64 0, .int .i64 0]) := ⟨by kernel_rfl⟩
instance : IsAgg Tryd.prog 37 3 := ⟨by kernel_rfl⟩
instance : HasSize Tryd.prog 37 3 := ⟨by kernel_rfl⟩
instance : IsElem Tryd.prog 37 3 40 := ⟨by kernel_rfl, by decide⟩
instance : HasZero Tryd.prog 37 (.agg #[.int .i64 0, .int .i64 0, .slice none 0 0]) := ⟨by kernel_rfl⟩
instance : IsAgg Tryd.prog 116 2 := ⟨by kernel_rfl⟩
instance : HasSize Tryd.prog 116 2 := ⟨by kernel_rfl⟩
instance : IsElem Tryd.prog 116 2 16 := ⟨by kernel_rfl, by decide⟩
instance : HasZero Tryd.prog 116 (.agg #[.int .i64 0, .int .i64 0]) := ⟨by kernel_rfl⟩
instance : IsAgg Tryd.prog 79 10 := ⟨by kernel_rfl⟩
instance : HasSize Tryd.prog 79 10 := ⟨by kernel_rfl⟩
instance : IsElem Tryd.prog 79 10 128 := ⟨by kernel_rfl, by decide⟩
instance : HasZero Tryd.prog 79 (.agg #[.int .i64 0, .int .i64 0, .slice none 0 0, .int .i64 0, .int .i64 0, .slice none 0 0, .int .i64 0, .int .i64 0, .slice none 0 0, .map none]) := ⟨by kernel_rfl⟩
instance : IsAgg Tryd.prog 101 3 := ⟨by kernel_rfl⟩
instance : HasSize Tryd.prog 101 3 := ⟨by kernel_rfl⟩
instance : IsElem Tryd.prog 101 3 40 := ⟨by kernel_rfl, by decide⟩
instance : HasZero Tryd.prog 101 (.agg #[.slice none 0 0, .map none, .map none]) := ⟨by kernel_rfl⟩
instance : IsAgg Tryd.prog 81 12 := ⟨by kernel_rfl⟩
instance : HasSize Tryd.prog 81 12 := ⟨by kernel_rfl⟩
instance : IsElem Tryd.prog 81 12 160 := ⟨by kernel_rfl, by decide⟩
instance : HasZero Tryd.prog 81 (.agg #[.slice none 0 0, .pointer none, .int .i64 0, .int .i64 0, .slice none 0 0, .int .i64 0, .int .i64 0, .slice none 0 0, .int .i64 0, .int .i64 0, .slice none 0 0, .map none]) := ⟨by kernel_rfl⟩
instance : IsAgg Tryd.prog 68 3 := ⟨by kernel_rfl⟩
instance : HasSize Tryd.prog 68 3 := ⟨by kernel_rfl⟩
instance : IsElem Tryd.prog 68 3 40 := ⟨by kernel_rfl, by decide⟩
instance : HasZero Tryd.prog 68 (.agg #[.bool false, .int .i64 0, .slice none 0 0]) := ⟨by kernel_rfl⟩
instance : IsAgg Tryd.prog 13 2 := ⟨by kernel_rfl⟩
instance : HasSize Tryd.prog 13 2 := ⟨by kernel_rfl⟩
instance : IsElem Tryd.prog 13 2 24 := ⟨by kernel_rfl, by decide⟩
instance : HasZero Tryd.prog 13 (.agg #[.string ⟨#[]⟩, .int .u64 0]) := ⟨by kernel_rfl⟩
instance : IsOne Tryd.prog 166 := ⟨by kernel_rfl⟩
instance : HasSize Tryd.prog 166 1 := ⟨by kernel_rfl⟩
instance : IsElem Tryd.prog 166 1 8 := ⟨by kernel_rfl, by decide⟩
instance : HasZero Tryd.prog 166 (.int .u64 0) := ⟨by kernel_rfl⟩
instance : IsOne Tryd.prog 164 := ⟨by kernel_rfl⟩
instance : HasSize Tryd.prog 164 1 := ⟨by kernel_rfl⟩
instance : IsElem Tryd.prog 164 1 4 := ⟨by kernel_rfl, by decide⟩
instance : HasZero Tryd.prog 164 (.int .u32 0) := ⟨by kernel_rfl⟩
instance : IsOne Tryd.prog 157 := ⟨by kernel_rfl⟩
instance : HasSize Tryd.prog 157 1 := ⟨by kernel_rfl⟩
instance : IsElem Tryd.prog 157 1 8 := ⟨by kernel_rfl, by decide⟩
instance : HasZero Tryd.prog 157 (.int .u64 0) := ⟨by kernel_rfl⟩
instance : IsOne Tryd.prog 5 := ⟨by kernel_rfl⟩
instance : HasSize Tryd.prog 5 1 := ⟨by kernel_rfl⟩
instance : IsElem Tryd.prog 5 1 1 := ⟨by kernel_rfl, by decide⟩
instance : HasZero Tryd.prog 5 (.int .u8 0) := ⟨by kernel_rfl⟩
instance : IsOne Tryd.prog 12 := ⟨by kernel_rfl⟩
instance : HasSize Tryd.prog 12 1 := ⟨by kernel_rfl⟩
instance : IsElem Tryd.prog 12 1 8 := ⟨by kernel_rfl, by decide⟩
instance : HasZero Tryd.prog 12 (.int .u64 0) := ⟨by kernel_rfl⟩
instance : IsOne Tryd.prog 188 := ⟨by kernel_rfl⟩
instance : HasSize Tryd.prog 188 1 := ⟨by kernel_rfl⟩
instance : IsElem Tryd.prog 188 1 8 := ⟨by kernel_rfl, by decide⟩
instance : HasZero Tryd.prog 188 (.pointer none) := ⟨by kernel_rfl⟩
end Go.Proofs.YtibabfedpdoofaaDoor

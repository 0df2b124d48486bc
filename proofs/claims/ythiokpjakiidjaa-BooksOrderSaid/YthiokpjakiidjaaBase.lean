/-
  Lemmas on regions whose order the model draws, and on worlds that have only grown, over any program; conditions: none.
-/
import Derived.WalkKit
import Derived.WalkLawsBesides
import Derived.WalkSpells
import Derived.Deep.Quiet
import Derived.Deep.QuietTactic
import Derived.BigQuiet
import Derived.Lib.Hide
namespace Go
open Go.RowKit
namespace Own

/-- W, or x, where x is W grown (as W below block B). -/
noncomputable def later (W : World) (B : Nat) (x : World) : World := open Classical in if Below B W x then x else W

theorem later_below (W : World) (B : Nat) (x : World) : Below B W (later W B x) := by
  unfold later; split
  · assumption
  · exact Below.refl _ _
theorem later_of {W : World} {B : Nat} {x : World} (h : Below B W x) : x = later W B x := by
  unfold later; rw [if_pos h]
@[go_sem] theorem later_cell (W : World) (B : Nat) (x : World) (b o : Nat) (h : b < B) : (later W B x).cell? ⟨b, o, none⟩ = W.cell? ⟨b, o, none⟩ :=
  (later_below W B x).cell (p := ⟨b, o, none⟩) h
@[go_sem] theorem later_frozen (W : World) (B : Nat) (x : World) (b o : Nat) (h : b < B) : (later W B x).frozen? ⟨b, o, none⟩ = W.frozen? ⟨b, o, none⟩ :=
  (later_below W B x).frozen (p := ⟨b, o, none⟩) h
theorem later_heap (W : World) (B : Nat) (x : World) (b : Nat) (h : b < B) : (later W B x).heap[b]? = W.heap[b]? := (later_below W B x).block b h

theorem bcell {B : Nat} {W w1 : World} (hb : Below B W w1) : (∀ b o, b < B → w1.cell? ⟨b, o, none⟩ = W.cell? ⟨b, o, none⟩) ∧ (∀ b o, b < B → w1.frozen? ⟨b, o, none⟩ = W.frozen? ⟨b, o, none⟩) :=
  ⟨fun b o h => hb.cell (p := ⟨b, o, none⟩) h, fun b o h => hb.frozen (p := ⟨b, o, none⟩) h⟩

/-- A call in a region whose worlds are those that have grown. -/
theorem calls_later {P : Program} {f : FuncId} {args : Array Value} {W x : World} {B : Nat} {v : Value} (hB : B ≤ W.heap.size)
    (h : Calls P f args (later W B x) fun e w' => e = .returned v ∧ Below (later W B x).heap.size (later W B x) w') :
    Calls P f args (later W B x) fun e w'' => e = .returned v ∧ ∃ y, w'' = later W B y :=
  h.mono fun _ w' ⟨he, hw⟩ => ⟨he, w', later_of ((later_below W B x).trans (hw.mono (Nat.le_trans hB (later_below W B x).size)))⟩

section
variable {P : Program} {Q : Exit → Act → World → Prop}

/-- A region that draws its order, of reads and of calls that only make memory: one walk, in the order of the text. -/
theorem region_later {id : Nat} {a : Act} {w : World} {l : List Oper} (hm : P.follows .mixedOrders = true) (hB : Region.lexB .any l.toArray = true)
    (h : wpQuiet P l.toArray (fun w' => ∃ x, w' = later w w.heap.size x) (fun a' => ∀ w', Below w.heap.size w w' → Q .normal a' w') l a) :
    (Code.region id l.toArray true).wp P Q a w :=
  wp_region_quiet (C := fun w' => ∃ x, w' = later w w.heap.size x) hm hB ⟨_, later_of (Below.refl _ w).drew⟩ (by
    have e : (fun a' => ∀ w', Below w.heap.size w w' → Q .normal a' w') = (fun a' => ∀ w', (∃ x, w' = later w w.heap.size x) → Q .normal a' w') := by
      funext a'
      exact propext ⟨fun hh w' ⟨x, hx⟩ => hh w' (hx ▸ later_below _ _ _), fun hh w' hb => hh w' ⟨w', later_of hb⟩⟩
    rw [e] at h
    simpa using h)

/-! The same, with a tail of operations that come last in whatever order. -/

def waits (ops : Array Oper) (j i : Nat) : Bool := ((ops[j]?).map fun o => o.after.any fun e => Region.binds .any e && e.on == i).getD false
theorem waits_iff {ops : Array Oper} {j i : Nat} (h : waits ops j i = true) : ∃ o, ops[j]? = some o ∧ ∃ e ∈ o.after, Region.binds .any e = true ∧ e.on = i := by
  unfold waits at h
  cases ho : ops[j]? with
  | none => simp [ho] at h
  | some o =>
    simp only [ho, Option.map_some, Option.getD_some, Array.any_eq_true', Bool.and_eq_true, beq_iff_eq] at h
    exact ⟨o, rfl, h⟩
def backB (ops : Array Oper) : Bool := (List.range ops.size).all fun i => ((ops[i]?).map fun o => o.after.all fun e => !Region.binds .any e || decide (e.on < i)).getD true
theorem backB_spec {ops : Array Oper} (h : backB ops = true) {i : Nat} {o : Oper} (ho : ops[i]? = some o) {e : Edge} (he : e ∈ o.after) (hb : Region.binds .any e = true) : e.on < i := by
  have hi : i < ops.size := (Array.getElem?_eq_some_iff.1 ho).1
  have := List.all_eq_true.1 h i (List.mem_range.2 hi)
  simp only [ho, Option.map_some, Option.getD_some, Array.all_eq_true_iff_forall_mem] at this
  have := this e he
  simpa [hb] using this
def guardB (ops : Array Oper) (n : Nat) : Bool := (List.range n).all fun i => ((ops[i]?).map fun o => match o.guard with | none => true | some (j, _) => decide (j < n)).getD true
def tailB (ops : Array Oper) (n : Nat) : Bool :=
  decide (n ≤ ops.size) && backB ops && guardB ops n &&
  ((List.range n).all fun i => (List.range (n + 1)).any fun j => decide (i < j) && waits ops j i) &&
  ((List.range ops.size).all fun t => decide (t ≤ n) || waits ops t (t - 1))

/-- What has come up so far: nothing behind n; each with all that it waits for. -/
structure Inv (ops : Array Oper) (n : Nat) (listed : Array Bool) : Prop where
  size : listed.size = ops.size
  closed : ∀ j o, ops[j]? = some o → listed.getD j false = true → ∀ e ∈ o.after, Region.binds .any e = true → listed.getD e.on false = true
  tail : ∀ t, n ≤ t → listed.getD t false = false

theorem getD_ft {l : Array Bool} {i : Nat} (hi : i < l.size) : l.getD i false = l.getD i true := by simp [hi]

theorem not_ready {ops : Array Oper} {n : Nat} {listed : Array Bool} (inv : Inv ops n listed)
    (hs : ((List.range n).all fun i => (List.range (n + 1)).any fun j => decide (i < j) && waits ops j i) = true)
    (hc : ((List.range ops.size).all fun t => decide (t ≤ n) || waits ops t (t - 1)) = true) :
    ∀ d i, n - i = d → i < n → listed.getD i false = false → ∀ t, n ≤ t → t ∉ Region.ready .any ops listed := by
  intro d
  induction d using Nat.strongRecOn with
  | _ d ih =>
    intro i hd hi hun t ht hr
    obtain ⟨_, ot, hot, hall⟩ := mem_ready.1 hr
    have htlt : t < ops.size := (Array.getElem?_eq_some_iff.1 hot).1
    by_cases htn : t = n
    · have h1 := List.all_eq_true.1 hs i (List.mem_range.2 hi)
      obtain ⟨j, hj, hj2⟩ := List.any_eq_true.1 h1
      simp only [Bool.and_eq_true, decide_eq_true_eq] at hj2
      obtain ⟨o, ho, e, he, hb, hon⟩ := waits_iff hj2.2
      by_cases hjn : j = n
      · rw [htn] at hot
        rw [hjn, hot] at ho
        cases ho
        have := hall e he hb
        rw [hon, hun] at this; cases this
      · have hjlt : j < n := by have := List.mem_range.1 hj; omega
        cases hl : listed.getD j false with
        | true => have := inv.closed j o ho hl e he hb; rw [hon, hun] at this; cases this
        | false => exact ih (n - j) (by omega) j rfl hjlt hl t ht hr
    · have h1 := List.all_eq_true.1 hc t (List.mem_range.2 htlt)
      simp only [Bool.or_eq_true, decide_eq_true_eq] at h1
      rcases h1 with h1 | h1
      · omega
      · obtain ⟨o, ho, e, he, hb, hon⟩ := waits_iff h1
        rw [hot] at ho; cases ho
        have := hall e he hb
        rw [hon, inv.tail (t - 1) (by omega)] at this; cases this

theorem Inv.set {ops : Array Oper} {n i : Nat} {listed : Array Bool} (inv : Inv ops n listed) (hi : i ∈ Region.ready .any ops listed) (hin : i < n) : Inv ops n (listed.setIfInBounds i true) := by
  obtain ⟨_, oi, hoi, hall⟩ := mem_ready.1 hi
  refine ⟨by simp [inv.size], fun j o hj hl e he hb => ?_, fun t ht => ?_⟩
  · by_cases hij : i = j
    · subst hij; rw [hoi] at hj; cases hj; exact getD_set_true (hall e he hb)
    · rw [getD_set_ne false hij] at hl; exact getD_set_true (inv.closed j o hj hl e he hb)
  · rw [getD_set_ne false (by omega)]; exact inv.tail t ht

/-- The head's own operations, as a region. -/
def head (ops : Array Oper) (n : Nat) : Array Oper := (ops.toList.take n).toArray
theorem head_get {ops : Array Oper} {n i : Nat} (hi : i < n) : (head ops n)[i]? = ops[i]? := by
  simp [head, hi]
theorem head_size {ops : Array Oper} {n : Nat} (hn : n ≤ ops.size) : (head ops n).size = n := by simp [head]; omega

theorem wanted_head {ops : Array Oper} {n : Nat} (hg : guardB ops n = true) {i : Nat} (hi : i < n) {o : Oper} (ho : ops[i]? = some o) (tmps : Array Value) :
    Region.wanted o (yielded (head ops n) tmps) = Region.wanted o (yielded ops tmps) := by
  have h1 := List.all_eq_true.1 hg i (List.mem_range.2 hi)
  simp only [ho, Option.map_some, Option.getD_some] at h1
  unfold Region.wanted
  cases hgd : o.guard with
  | none => rfl
  | some g =>
    obtain ⟨j, want⟩ := g
    simp only [hgd, decide_eq_true_eq] at h1
    simp only [yielded, head_get h1]

/-- What is asked of the head's region: at its end, the tail; at every other exit what is asked of the whole. -/
def headQ (Q : Exit → Act → World → Prop) (R : Act → World → Prop) : Exit → Act → World → Prop
  | .normal, a, w => R a w
  | e, a, w => Q e a w

theorem upon_head {o : Oper} {a : Act} {K K' : Act → World → Prop} {R : Act → World → Prop} (hK : ∀ a w, K a w → K' a w) {r : Result Next}
    (h : o.upon P a K (headQ Q R) r) : o.upon P a K' Q r := by
  cases r with
  | ok n w' =>
    cases n <;> simp only [Oper.upon] at h ⊢ <;>
      first
        | exact hK _ _ h
        | exact Calls.mono h (fun e w'' he => by
            cases e with
            | returned v => exact hK _ _ he
            | panicked c => exact he
            | outgrown => obtain ⟨a', w', hq⟩ := he; exact ⟨a', w', hq⟩)
        | exact Rows.mono h (fun _ _ he => hK _ _ he)
  | halt x w' => cases x <;> simp only [Oper.upon] at h ⊢ <;> exact h

theorem wpOp_head {ops : Array Oper} {n i : Nat} (hg : guardB ops n = true) (hi : i < n) {a : Act} {w : World} {K K' : Act → World → Prop} {R : Act → World → Prop} (hK : ∀ a w, K a w → K' a w)
    (h : wpOp P (head ops n) (headQ Q R) i K a w) : wpOp P ops Q i K' a w := by
  unfold wpOp at *
  rw [head_get hi] at h
  cases ho : ops[i]? with
  | none => simp only [ho] at h ⊢; exact hK _ _ h
  | some o =>
    simp only [ho] at h ⊢
    rw [wanted_head hg hi ho] at h
    split
    · rename_i hw
      simp only [hw, if_true] at h
      rcases h with h | ⟨h1, a', w', h2⟩
      · exact .inl (by unfold Oper.wp at *; exact upon_head (R := R) hK h)
      · exact .inr ⟨h1, a', w', h2⟩
    · rename_i hw
      simp only [hw] at h
      exact hK _ _ h

/-- Which are listed, in the whole and in the head. -/
structure Alike (n : Nat) (listed listed' : Array Bool) : Prop where
  size : listed'.size = n
  same : ∀ i, i < n → listed'.getD i false = listed.getD i false

theorem ready_head {ops : Array Oper} {n i : Nat} {listed listed' : Array Bool} (hn : n ≤ ops.size) (hb : backB ops = true) (inv : Inv ops n listed) (al : Alike n listed listed') (hi : i < n) :
    i ∈ Region.ready .any ops listed ↔ i ∈ Region.ready .any (head ops n) listed' := by
  rw [mem_ready, mem_ready, head_get hi]
  have e1 : listed.getD i true = listed'.getD i true := by
    rw [← getD_ft (by rw [inv.size]; omega), ← getD_ft (by rw [al.size]; exact hi), al.same i hi]
  rw [e1]
  constructor
  · rintro ⟨h0, o, ho, hall⟩
    exact ⟨h0, o, ho, fun e he hbi => by have hlt := backB_spec hb ho he hbi; rw [al.same _ (by omega)]; exact hall e he hbi⟩
  · rintro ⟨h0, o, ho, hall⟩
    exact ⟨h0, o, ho, fun e he hbi => by have hlt := backB_spec hb ho he hbi; rw [← al.same _ (by omega)]; exact hall e he hbi⟩

theorem some_ready {ops : Array Oper} {n : Nat} {listed : Array Bool} (hn : n ≤ ops.size) (hb : backB ops = true) (inv : Inv ops n listed) :
    ∀ i, i < n → listed.getD i false = false → ∃ k, k ∈ Region.ready .any ops listed := by
  intro i
  induction i using Nat.strongRecOn with
  | _ i ih =>
    intro hi hun
    have hlt : i < ops.size := by omega
    by_cases hall : ∀ e ∈ ops[i].after, Region.binds .any e = true → listed.getD e.on false = true
    · exact ⟨i, mem_ready.2 ⟨by rw [← getD_ft (by rw [inv.size]; omega)]; exact hun, ops[i], by simp [hlt], hall⟩⟩
    · simp only [Classical.not_forall] at hall
      obtain ⟨e, he, hbi, hne⟩ := hall
      have hlt' := backB_spec hb (show ops[i]? = some ops[i] by simp [hlt]) he hbi
      exact ih e.on hlt' (by omega) (by simpa using hne)

/-- All of the head, nothing of the tail. -/
def allHead (m n : Nat) : Array Bool := ((List.range m).map fun i => decide (i < n)).toArray
theorem allHead_get (m n i : Nat) (hi : i < m) (d : Bool) : (allHead m n).getD i d = decide (i < n) := by simp [allHead, hi]

theorem whole_of_head {ops : Array Oper} {n g : Nat} (hn : n < ops.size) (hb : backB ops = true) (hg : guardB ops n = true)
    (hs : ((List.range n).all fun i => (List.range (n + 1)).any fun j => decide (i < j) && waits ops j i) = true)
    (hc : ((List.range ops.size).all fun t => decide (t ≤ n) || waits ops t (t - 1)) = true) :
    ∀ (f : Nat) (listed listed' : Array Bool) (a : Act) (w : World), Inv ops n listed → Alike n listed listed' →
      ((List.range n).filter fun i => !listed.getD i false).length = f →
      wpAny P .any (head ops n) (headQ Q (wpAny P .any ops Q g (allHead ops.size n))) f listed' a w → wpAny P .any ops Q (f + g) listed a w
  | 0, listed, listed', a, w, inv, al, hf, h => by
    rw [Nat.zero_add]
    have hall : ∀ i, i < n → listed.getD i false = true := fun i hi => by
      have := List.length_eq_zero_iff.1 hf
      cases hl : listed.getD i false with
      | true => rfl
      | false =>
        have hm : i ∈ (List.range n).filter fun i => !listed.getD i false := List.mem_filter.2 ⟨List.mem_range.2 hi, by rw [hl]; rfl⟩
        rw [this] at hm; cases hm
    have e : listed = allHead ops.size n := by
      apply Array.ext
      · simp [allHead, inv.size]
      · intro i h1 h2
        have hi : i < ops.size := by rw [← inv.size]; exact h1
        have e1 : listed.getD i false = listed[i] := by simp [h1]
        have e2 : (allHead ops.size n).getD i false = (allHead ops.size n)[i] := by simp [h2]
        rw [← e1, ← e2, allHead_get _ _ _ hi]
        by_cases hin : i < n
        · rw [hall i hin]; simp [hin]
        · rw [inv.tail i (by omega)]; simp [hin]
    rw [e]
    exact h.2
  | f + 1, listed, listed', a, w, inv, al, hf, h => by
    rw [show f + 1 + g = (f + g) + 1 by omega]
    have hun : ∃ i, i < n ∧ listed.getD i false = false := by
      cases hl : (List.range n).filter fun i => !listed.getD i false with
      | nil => rw [hl] at hf; cases hf
      | cons i r =>
        have : i ∈ (List.range n).filter fun i => !listed.getD i false := by rw [hl]; exact List.mem_cons_self
        obtain ⟨h1, h2⟩ := List.mem_filter.1 this
        exact ⟨i, List.mem_range.1 h1, by simpa using h2⟩
    obtain ⟨i0, hi0, hun0⟩ := hun
    refine ⟨fun h0 => ?_, fun i hi => ?_⟩
    · obtain ⟨k, hk⟩ := some_ready (by omega) hb inv i0 hi0 hun0
      rw [h0] at hk; cases hk
    · have hin : i < n := by
        rcases Nat.lt_or_ge i n with h' | h'
        · exact h'
        · exact absurd hi (not_ready inv hs hc _ i0 rfl hi0 hun0 i h')
      have hi' := (ready_head (by omega) hb inv al hin).1 hi
      refine wpOp_head hg hin (fun a' w' hr => ?_) (h.2 i hi')
      refine whole_of_head hn hb hg hs hc f (listed.setIfInBounds i true) (listed'.setIfInBounds i true) a' w' (inv.set hi hin) ⟨by simp [al.size], fun j hj => ?_⟩ ?_ hr
      · by_cases hij : i = j
        · subst hij
          have h1 : i < listed.size := by rw [inv.size]; omega
          have h2 : i < listed'.size := by rw [al.size]; omega
          simp [h1, h2]
        · rw [getD_set_ne false hij, getD_set_ne false hij]; exact al.same j hj
      · have hiun : listed.getD i false = false := by
          have := (mem_ready.1 hi).1
          rw [← getD_ft (by rw [inv.size]; omega)] at this
          exact this
        have hkey : ∀ l : List Nat, l.Nodup → (∀ x ∈ l, x < listed.size) → (l.filter fun k => !(listed.setIfInBounds i true).getD k false).length + (if i ∈ l then 1 else 0) = (l.filter fun k => !listed.getD k false).length := by
          intro l
          induction l with
          | nil => intro _ _; simp
          | cons x l ih =>
            intro hnd hlt
            have hnd' := List.nodup_cons.1 hnd
            have := ih hnd'.2 (fun y hy => hlt y (List.mem_cons_of_mem _ hy))
            by_cases hx : x = i
            · subst hx
              have h1 : x < listed.size := hlt x List.mem_cons_self
              have e1 : (listed.setIfInBounds x true).getD x false = true := by simp [h1]
              rw [if_neg hnd'.1] at this
              rw [List.filter_cons, List.filter_cons, e1, hiun]
              simp only [Bool.not_true, Bool.false_eq_true, if_false, Bool.not_false, if_true, List.length_cons, List.mem_cons, true_or]
              omega
            · have hne : i ≠ x := fun e => hx e.symm
              rw [List.filter_cons, List.filter_cons, getD_set_ne false hne]
              simp only [List.mem_cons, hne, false_or]
              by_cases hl : listed.getD x false = true
              · rw [hl]; simp only [Bool.not_true, Bool.false_eq_true, if_false]; exact this
              · have hl' : listed.getD x false = false := by simpa using hl
                rw [hl']; simp only [Bool.not_false, if_true, List.length_cons]; omega
        have := hkey (List.range n) List.nodup_range (fun x hx => by rw [inv.size]; have := List.mem_range.1 hx; omega)
        rw [if_pos (List.mem_range.2 hin), hf] at this
        omega

theorem rep_get (m i : Nat) : (Array.replicate m false).getD i false = false := by
  rcases Nat.lt_or_ge i m with h | h <;> simp [h]

/-- The tail, one behind the other. -/
theorem tail_run {ops : Array Oper} {n : Nat} (hb : backB ops = true) (hc : ((List.range ops.size).all fun t => decide (t ≤ n) || waits ops t (t - 1)) = true) :
    ∀ (l : List Oper) (k : Nat) (a : Act) (w : World), n ≤ k → (∀ j, l[j]? = ops[k + j]?) → wpList P ops Q l a w → wpAny P .any ops Q l.length (allHead ops.size k) a w
  | [], k, a, w, hk, hl, h => by
    have hge : ops.size ≤ k := by
      have := hl 0
      rcases Nat.lt_or_ge k ops.size with h' | h'
      · simp [h'] at this
      · exact h'
    refine ⟨?_, h⟩
    apply List.eq_nil_iff_forall_not_mem.2
    intro i hi
    obtain ⟨h0, o, ho, _⟩ := mem_ready.1 hi
    have hi' : i < ops.size := (Array.getElem?_eq_some_iff.1 ho).1
    rw [allHead_get _ _ _ hi'] at h0
    simp at h0; omega
  | o :: l, k, a, w, hk, hl, h => by
    have h0 : ops[k]? = some o := by simpa using (hl 0).symm
    have hlt : k < ops.size := (Array.getElem?_eq_some_iff.1 h0).1
    have hready : ∀ i, i ∈ Region.ready .any ops (allHead ops.size k) → i = k := by
      intro i hi
      obtain ⟨h1, oi, hoi, hall⟩ := mem_ready.1 hi
      have hi' : i < ops.size := (Array.getElem?_eq_some_iff.1 hoi).1
      rw [allHead_get _ _ _ hi'] at h1
      have hge : k ≤ i := by simpa using h1
      rcases Nat.lt_or_ge k i with hki | hki
      · have h2 := List.all_eq_true.1 hc i (List.mem_range.2 hi')
        simp only [Bool.or_eq_true, decide_eq_true_eq] at h2
        rcases h2 with h2 | h2
        · omega
        · obtain ⟨o', ho', e, he, hbi, hon⟩ := waits_iff h2
          rw [hoi] at ho'; cases ho'
          have := hall e he hbi
          rw [hon, allHead_get _ _ _ (by omega)] at this
          simp at this; omega
      · omega
    have hk' : k ∈ Region.ready .any ops (allHead ops.size k) := mem_ready.2 ⟨by rw [allHead_get _ _ _ hlt]; simp, o, h0, fun e he hbi => by
      have := backB_spec hb h0 he hbi
      rw [allHead_get _ _ _ (by omega)]; simpa using this⟩
    refine ⟨fun h1 => (by rw [h1] at hk'; cases hk'), fun i hi => ?_⟩
    obtain rfl := hready i hi
    have hw : wpOp P ops Q i (wpList P ops Q l) a w := by unfold wpOp; simp only [h0]; exact h
    refine wpOp_mono (fun a' w' h' => ?_) hw
    have hset : (allHead ops.size i).setIfInBounds i true = allHead ops.size (i + 1) := by
      apply Array.ext
      · simp [allHead]
      · intro j h1 h2
        have hj : j < ops.size := by simpa [allHead] using h2
        by_cases hji : i = j
        · subst hji; simp [allHead]
        · have e : (j < i) = (j < i + 1) := by apply propext; omega
          rw [Array.getElem_setIfInBounds_ne (by simpa using h1) hji]
          simp [allHead, e]
    rw [hset]
    exact tail_run hb hc l (i + 1) a' w' (by omega) (fun j => by have := hl (j + 1); simpa [Nat.add_assoc, Nat.add_comm 1 j] using this) h'

/-- A region that draws its order: its first n operations read, or call what only makes memory; the others come behind all of these, in the order of the text. -/
theorem region_later_tail {id : Nat} {a : Act} {w : World} {l : List Oper} (n : Nat) (hm : P.follows .mixedOrders = true) (hB : Region.lexB .any (l.take n).toArray = true) (hT : tailB l.toArray n = true) (hn : n < l.length)
    (h : wpQuiet P (l.take n).toArray (fun w' => ∃ x, w' = later w w.heap.size x) (fun a' => ∀ w', Below w.heap.size w w' → wpList P l.toArray Q (l.drop n) a' w') (l.take n) a) :
    (Code.region id l.toArray true).wp P Q a w := by
  simp only [tailB, Bool.and_eq_true, decide_eq_true_eq] at hT
  obtain ⟨⟨⟨⟨_, hb⟩, hg⟩, hs⟩, hc⟩ := hT
  have hn' : n < l.toArray.size := by simpa using hn
  simp only [Region.lexB, Bool.and_eq_true] at hB
  have ehead : head l.toArray n = (l.take n).toArray := rfl
  have hsz : (l.take n).toArray.size = n := by simp; omega
  refine wp_region_any hm ?_
  have H1 := wpAnyQ_lex (C := fun w' => ∃ x, w' = later w w.heap.size x) (md := .any) (P := P) hB.1 (l.take n) 0 (Array.replicate (l.take n).toArray.size false) a (by simp) (by simpa using hB.2) h
  have H2 := wpAny_of_quiet (P := P) (Q := fun a' => ∀ w', Below w.heap.size w w' → wpList P l.toArray Q (l.drop n) a' w') (Q' := headQ Q (wpAny P .any l.toArray Q (l.drop n).length (allHead l.toArray.size n))) (fun a' w' hw' hq => by
      show wpAny P .any l.toArray Q (l.drop n).length (allHead l.toArray.size n) a' w'
      exact tail_run hb hc (l.drop n) n a' w' (Nat.le_refl _) (fun j => by simp [List.getElem?_drop]) (hq w' (by obtain ⟨x, rfl⟩ := hw'; exact later_below _ _ _))) _ _ _ { w with drawn := w.drawn + 1 } ⟨_, later_of (Below.refl _ w).drew⟩ H1
  have hlen : (l.take n).length = n := by simp; omega
  have H3 := whole_of_head (P := P) (Q := Q) (g := (l.drop n).length) hn' hb hg hs hc n (Array.replicate l.toArray.size false) (Array.replicate (l.take n).toArray.size false) a { w with drawn := w.drawn + 1 }
    ⟨by simp, fun _ _ _ hl => absurd (hl.symm.trans (rep_get _ _)) (by decide), fun _ _ => rep_get _ _⟩
    ⟨by simp; omega, fun i _ => (rep_get _ _).trans (rep_get _ _).symm⟩
    (by
      have : ((List.range n).filter fun i => !(Array.replicate l.toArray.size false).getD i false) = List.range n := List.filter_eq_self.2 fun i _ => by rw [rep_get]; rfl
      rw [this]; simp)
    (by rw [ehead]; rw [hlen] at H2; exact H2)
  rw [show n + (l.drop n).length = l.toArray.size by simp; omega] at H3
  exact H3
end
end Own
end Go

namespace Go
open Go.RowKit
namespace Own
section
variable {P : Program} {Q : Exit → Act → World → Prop}

/-- append of one element, whose cells the call has just laid, onto a slice that the call made. -/
theorem wpList_push {ops : Array Oper} {rest : List Oper} {o : Oper} {a : Act} {wr W0 : World} {s x : Operand} {t : TypeId} {base e : Nat} {z v : Value} {size bytes n : Nat} {xs news : List Value}
    (hgd : o.guard = none) (ho : o.op = .call { callee := .builtin .append, args := #[s, x], argTypes := #[t, t] })
    (ht : P.underlying t = some (.slice e)) (info : (P.info? e).map (fun i => (i.zero, i.size, i.bytes)) = some (some z, size, bytes)) (hzs : z.cells.size = size) (hsz : 0 < size)
    (hown : wr.ownsRow base e size v n xs) (hB : Below base W0 wr) (hbase : base ≤ wr.heap.size)
    (hs : a.eval s = v) (hx : a.eval x = .slice (some ⟨wr.heap.size, 0, none⟩) 1 1) (hl : news.length = size) (h1 : news.all (·.oneCell') = true)
    (h63 : n + 1 ≤ maxLen) (hbytes : (n + 1) * bytes ≤ 140737488355328)
    (h : ∀ v' w', w'.ownsRow base e size v' (n + 1) (xs ++ news) → Below base W0 w' → v' ≠ .slice none 0 0 → wpList P ops Q rest (a.put o.dst v') w') :
    wpList P ops Q (o :: rest) a (wr.alloc (.cells news.toArray e)) := by
  cases hi : P.info? e with
  | none => rw [hi] at info; cases info
  | some i =>
    rw [hi] at info
    simp only [Option.map_some, Option.some.injEq, Prod.mk.injEq] at info
    obtain ⟨hz, hsize, hby⟩ := info
    have hsz2 : (wr.alloc (.cells news.toArray e)).heap.size = wr.heap.size + 1 := by simp
    refine wpList_append_own _ hgd s x t ho base e i z size bytes ht hi hz hsize hby hzs hsz v n xs hs (hown.alloc _) ⟨wr.heap.size, 0, none⟩ 1 1 news hx (by omega) ?_ (fun u hu => List.all_eq_true.1 h1 u hu) h63 hbytes (by omega) ?_
    · intro j u hu
      have hadd : (⟨wr.heap.size, 0, none⟩ : Addr).add j = ⟨wr.heap.size, j, none⟩ := by unfold Addr.add; split <;> simp_all
      rw [hadd]
      have := cell_of_row (wr.alloc (.cells news.toArray e)) wr.heap.size j news.toArray e (0, 0) (heap_alloc_new wr _)
      rw [this]; simpa using hu
    · intro v' w' h2 h3 h4
      refine h v' w' h2 ((hB.alloc hbase _).grown h3 (by omega) (fun k hk => (hown.lt k hk).1)) (fun e => ?_)
      have := (h4.1 e).2
      omega

def byteVals (l : List UInt8) : List Value := l.map fun c => .int .u8 (c.toNat : Int)

/-- string(b), b a slice of bytes that the call made. -/
theorem run_string_owned {w : World} {base e src dst : Nat} {v : Value} {l : List UInt8} (hs : P.underlying src = some (.slice e)) (he : P.underlying e = some (.int .u8)) (hd : P.underlying dst = some .string)
    (hown : w.ownsRow base e 1 v l.length (byteVals l)) (hnn : v ≠ .slice none 0 0) : (convert src dst v).run P w = .ok (.string ⟨l.toArray⟩) w := by
  have hc := @World.ownsRow.cells w base e 1 v l.length (byteVals l) hown
  rcases hown.2 with ⟨h1, _⟩ | ⟨g, cap, cur, rfl, _, hh, _⟩
  · exact absurd h1 hnn
  · refine run_convert_bytes_back w src dst e ⟨g, 0, none⟩ cap l hs he hd ?_
    intro j hj
    exact hc rfl j _ (by simp [byteVals, hj])
end
end Own
end Go

namespace Go.Own
theorem ret_bool {a b : Bool} (h : a = b) : Ending.returned (.bool a) = .returned (.bool b) := by rw [h]
theorem ret_int {k : IntKind} {a b : Int} (h : a = b) : Ending.returned (.int k a) = .returned (.int k b) := by rw [h]
theorem ret_str {a b : ByteArray} (h : a = b) : Ending.returned (.string a) = .returned (.string b) := by rw [h]
theorem ret_list {a b : List UInt8} (h : a = b) : Ending.returned (.string ⟨a.toArray⟩) = .returned (.string ⟨b.toArray⟩) := by rw [h]
end Go.Own
namespace Go.Own
@[go_sem] theorem ba_get (l : List UInt8) (i : Nat) (h : i < (ByteArray.mk l.toArray).size) : (ByteArray.mk l.toArray)[i]'h = l[i]'(by simpa [ByteArray.size] using h) := rfl
theorem below_drewN {B : Nat} {a w : World} (h : Go.RowKit.Below B a w) (n : Nat) : Go.RowKit.Below B a (w.drewN n) := ⟨h.os, h.tape, h.output, h.size, h.block⟩
@[go_sem] theorem ba_append (a b : List UInt8) : (ByteArray.mk a.toArray) ++ (ByteArray.mk b.toArray) = ⟨(a ++ b).toArray⟩ := by
  apply ByteArray.ext
  simp
/-- s[i:], in lists. -/
@[go_sem] theorem extract_from (l : List UInt8) (i j : Nat) (h : l.length ≤ j) : (ByteArray.mk l.toArray).extract i j = ⟨(l.drop i).toArray⟩ := by
  apply ByteArray.ext
  simp [ByteArray.data_extract]
  rw [List.take_of_length_le (by simp; omega)]
@[go_sem] theorem extract_to (l : List UInt8) (j : Nat) : (ByteArray.mk l.toArray).extract 0 j = ⟨(l.take j).toArray⟩ := by
  apply ByteArray.ext
  simp [ByteArray.data_extract]
end Go.Own
namespace Go.Own
def slowString (P : Program) (src dst : TypeId) (a : Addr) (cap : Nat) (w : World) : Result Value := (convert src dst (.slice (some a) 1 cap)).run P w
/-- string(b), b a slice of one byte. -/
theorem run_string_one {P : Program} {src dst e : TypeId} (hs : P.underlying src = some (.slice e)) (he : P.underlying e = some (.int .u8)) (hd : P.underlying dst = some .string) (w : World) (a : Addr) (cap : Nat) :
    (convert src dst (.slice (some a) 1 cap)).run P w = match w.cell? a with
      | some (.int .u8 c) => .ok (.string ⟨[UInt8.ofNat c.toNat].toArray⟩) w
      | _ => slowString P src dst a cap w := by
  split
  · rename_i c h
    rw [run_convert_bytes_string w src dst e (some a) 1 cap hs he hd]
    have hl := run_loadCells_list (P := P) w a [.int .u8 c] (fun j v hj => by
      cases j with
      | zero => simp at hj; subst hj; simpa [Addr.add] using h
      | succ j => simp at hj)
    rw [run_bytesToString w a 1 cap [c] hl]
    rfl
  · rfl
end Go.Own

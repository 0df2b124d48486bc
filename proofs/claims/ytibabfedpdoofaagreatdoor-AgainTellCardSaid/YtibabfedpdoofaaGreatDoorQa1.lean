/-
  Lemmas on regions whose order the model draws, and on worlds that have only grown, over any program; conditions: none.
  Slices of flat structs, as lists of their cells: read, copied, appended to; conditions: none.
  Memory that a call has made for its own: read, written, kept through calls, over any program; conditions: none.
  What the program's types are: how many cells, their zero; conditions: none. (Printed by wip/mktypes.py.)
  Rows and slices among the pieces of memory that a call has made: read and grown; conditions: none.
  Regions whose order the model draws, walked in one order of one's own choice: what reads is taken as it comes up, what writes or calls where nothing else may come up; over any program; conditions: none.
  Regions whose order the model draws, walked in one order of one's own choice, where what the quiet ones read must stay only till the last of them has come up; over any program; conditions: none.
  Results that lie in a box; reads of rows in a region walked in an order of one's own; over any program; conditions: none.
  Postings, and what they come to: plain Lean; conditions: none.
  Sums, accounts, and whether a posting may be, by walking both texts; conditions: int64 in, int64 out.
-/
import Derived.WalkKit
import Derived.WalkLawsBesides
import Derived.WalkSpells
import Derived.Deep.Quiet
import Derived.Deep.QuietTactic
import Derived.BigQuiet
import Derived.Lib.Hide
import Derived.Laws.AppendOwnNone
import Derived.Deep.Slices
import Derived.ChangeSame
import Derived.Test.YtibabfedpdoofaaGreatDoorProg
import Derived.KernelRfl
import Derived.OrdersHeld
import Derived.Deep.RegionHeld3
namespace Go
theorem zA {α : Type _} (l : List α) (i : Nat) (a : α) : l.toArray.setIfInBounds i a = (l.set i a).toArray := List.setIfInBounds_toArray l i a
theorem zB {α : Type _} (a b : α) (l : List α) (n : Nat) : (a :: l).set (n + 1) b = a :: l.set n b := rfl
theorem zC {α : Type _} (a b : α) (l : List α) : (a :: l).set 0 b = b :: l := rfl
end Go
namespace Go
open Go.RowKit
namespace Own

/-- W, or x, where x is W grown (as W below block B). -/
noncomputable def later (W : World) (B : Nat) (x : World) : World := open Classical in if Below B W x then x else W

theorem later_below (W : World) (B : Nat) (x : World) : Below B W (later W B x) := by
  unfold later; split
  · assumption
  · exact Below.refl _ _
theorem later_of {W : World} {B : Nat} {x : World} (h : Below B W x) : x = later W B x := by
  unfold later; rw [if_pos h]
@[go_sem] theorem later_cell (W : World) (B : Nat) (x : World) (b o : Nat) (h : b < B) : (later W B x).cell? ⟨b, o, none⟩ = W.cell? ⟨b, o, none⟩ :=
  (later_below W B x).cell (p := ⟨b, o, none⟩) h
@[go_sem] theorem later_frozen (W : World) (B : Nat) (x : World) (b o : Nat) (h : b < B) : (later W B x).frozen? ⟨b, o, none⟩ = W.frozen? ⟨b, o, none⟩ :=
  (later_below W B x).frozen (p := ⟨b, o, none⟩) h
theorem bcell {B : Nat} {W w1 : World} (hb : Below B W w1) : (∀ b o, b < B → w1.cell? ⟨b, o, none⟩ = W.cell? ⟨b, o, none⟩) ∧ (∀ b o, b < B → w1.frozen? ⟨b, o, none⟩ = W.frozen? ⟨b, o, none⟩) :=
  ⟨fun b o h => hb.cell (p := ⟨b, o, none⟩) h, fun b o h => hb.frozen (p := ⟨b, o, none⟩) h⟩

/-- A call in a region whose worlds are those that have grown. -/
theorem calls_later {P : Program} {f : FuncId} {args : Array Value} {W x : World} {B : Nat} {v : Value} (hB : B ≤ W.heap.size)
    (h : Calls P f args (later W B x) fun e w' => e = .returned v ∧ Below (later W B x).heap.size (later W B x) w') :
    Calls P f args (later W B x) fun e w'' => e = .returned v ∧ ∃ y, w'' = later W B y :=
  h.mono fun _ w' ⟨he, hw⟩ => ⟨he, w', later_of ((later_below W B x).trans (hw.mono (Nat.le_trans hB (later_below W B x).size)))⟩

section
variable {P : Program} {Q : Exit → Act → World → Prop}

/-- A region that draws its order, of reads and of calls that only make memory: one walk, in the order of the text. -/
theorem region_later {id : Nat} {a : Act} {w : World} {l : List Oper} (hm : P.follows .mixedOrders = true) (hB : Region.lexB .any l.toArray = true)
    (h : wpQuiet P l.toArray (fun w' => ∃ x, w' = later w w.heap.size x) (fun a' => ∀ w', Below w.heap.size w w' → Q .normal a' w') l a) :
    (Code.region id l.toArray true).wp P Q a w :=
  wp_region_quiet (C := fun w' => ∃ x, w' = later w w.heap.size x) hm hB ⟨_, later_of (Below.refl _ w).drew⟩ (by
    have e : (fun a' => ∀ w', Below w.heap.size w w' → Q .normal a' w') = (fun a' => ∀ w', (∃ x, w' = later w w.heap.size x) → Q .normal a' w') := by
      funext a'
      exact propext ⟨fun hh w' ⟨x, hx⟩ => hh w' (hx ▸ later_below _ _ _), fun hh w' hb => hh w' ⟨w', later_of hb⟩⟩
    rw [e] at h
    simpa using h)

/-! The same, with a tail of operations that come last in whatever order. -/

end
end Own
end Go

namespace Go
open Go.RowKit
namespace Own
section
variable {P : Program} {Q : Exit → Act → World → Prop}

end
end Own
end Go

namespace Go.Own
theorem ret_bool {a b : Bool} (h : a = b) : Ending.returned (.bool a) = .returned (.bool b) := by rw [h]
theorem ret_int {k : IntKind} {a b : Int} (h : a = b) : Ending.returned (.int k a) = .returned (.int k b) := by rw [h]
end Go.Own
namespace Go.Own
@[go_sem] theorem ba_get (l : List UInt8) (i : Nat) (h : i < (ByteArray.mk l.toArray).size) : (ByteArray.mk l.toArray)[i]'h = l[i]'(by simpa [ByteArray.size] using h) := rfl
@[go_sem] theorem ba_append (a b : List UInt8) : (ByteArray.mk a.toArray) ++ (ByteArray.mk b.toArray) = ⟨(a ++ b).toArray⟩ := by
  apply ByteArray.ext
  simp
/-- s[i:], in lists. -/
@[go_sem] theorem extract_from (l : List UInt8) (i j : Nat) (h : l.length ≤ j) : (ByteArray.mk l.toArray).extract i j = ⟨(l.drop i).toArray⟩ := by
  apply ByteArray.ext
  simp [ByteArray.data_extract]
  rw [List.take_of_length_le (by simp; omega)]
@[go_sem] theorem extract_to (l : List UInt8) (j : Nat) : (ByteArray.mk l.toArray).extract 0 j = ⟨(l.take j).toArray⟩ := by
  apply ByteArray.ext
  simp [ByteArray.data_extract]
end Go.Own
namespace Go.Own
end Go.Own
namespace Go.Own
open Go.RowKit

theorem lAdd (a : Addr) (m k : Nat) : a.add (m + k) = (a.add m).add k := by
  unfold Addr.add
  by_cases hm : m = 0
  · subst hm; simp
  · by_cases hk : k = 0
    · subst hk; simp [hm]
    · simp [hm, hk, Nat.add_assoc]
theorem lAdd1 (c : Addr) (k : Nat) : c.add (k + 1) = ⟨c.block, c.off + (k + 1), none⟩ := by simp [Addr.add]
theorem lBlock (a : Addr) (n : Nat) : (a.add n).block = a.block := by unfold Addr.add; split <;> rfl

/-- Structs of k cells lie in memory, one behind the other, from a on. -/
structure LAt (w : World) (a : Addr) (k : Nat) (L : List (List Value)) : Prop where
  lt : a.block < w.heap.size
  c : ∀ i (h : i < L.length) j v, L[i][j]? = some v → w.cell? ((a.add (i * k)).add j) = some v
theorem LAt.below {B k : Nat} {w w' : World} {a : Addr} {L : List (List Value)} (h : LAt w a k L) (hb : Below B w w') (hB : a.block < B) : LAt w' a k L := by
  have hs := hb.size
  have hl := h.lt
  refine ⟨by omega, fun i hi j v hv => ?_⟩
  rw [← h.c i hi j v hv]
  exact World.cell?_of_block (w := w) (hb.block _ (by rw [lBlock, lBlock]; exact hB))
theorem LAt.c0 {w : World} {a : Addr} {k : Nat} {L : List (List Value)} (h : LAt w a k L) (i : Nat) (hi : i < L.length) (v : Value) (hv : L[i][0]? = some v) : w.cell? (a.add (i * k)) = some v := by
  have := h.c i hi 0 v hv
  rwa [show ∀ c : Addr, c.add 0 = c from fun c => by simp [Addr.add]] at this
theorem LAt.cj {w : World} {a : Addr} {k : Nat} {L : List (List Value)} (h : LAt w a k L) (i : Nat) (hi : i < L.length) (j : Nat) (v : Value) (hv : L[i][j + 1]? = some v) : w.cell? ⟨(a.add (i * k)).block, (a.add (i * k)).off + (j + 1), none⟩ = some v := by
  have := h.c i hi (j + 1) v hv
  rwa [lAdd1] at this

/-- A slice of structs: none, or some that lie in memory. -/
inductive IsL (w : World) (k : Nat) : Value → List (List Value) → Prop
  | none (sp : Option Addr) (sc : Nat) (hn : sp = Option.none → sc = 0) : IsL w k (.slice sp 0 sc) []
  | some (a : Addr) (cap : Nat) (L : List (List Value)) (hlen : L.length ≤ cap) (hcap : cap ≤ maxLen) (h0 : 0 < L.length) (h : LAt w a k L) : IsL w k (.slice (some a) L.length cap) L
def VL (v : Value) (B : Nat) : Prop := ∀ a n c, v = .slice (some a) n c → 0 < n → a.block < B
theorem IsL.lt {w : World} {k : Nat} {v : Value} {L : List (List Value)} (h : IsL w k v L) : VL v w.heap.size := by
  intro a n c e hn
  cases h with
  | none sp sc hn' => cases e; omega
  | some a' cap L hlen hcap h0 h => cases e; exact h.lt
theorem IsL.below {B k : Nat} {w w' : World} {v : Value} {L : List (List Value)} (h : IsL w k v L) (hb : Below B w w') (hB : VL v B) : IsL w' k v L := by
  cases h with
  | none sp sc hn => exact .none sp sc hn
  | some a cap L hlen hcap h0 h => exact .some a cap L hlen hcap h0 (h.below hb (hB a _ _ rfl h0))
theorem IsL.slice {w : World} {k : Nat} {v : Value} {L : List (List Value)} (h : IsL w k v L) : ∃ p c, v = .slice p L.length c ∧ L.length ≤ maxLen := by
  cases h with
  | none sp sc hn => exact ⟨_, _, rfl, by simp⟩
  | some a cap L hlen hcap h0 h => exact ⟨_, _, rfl, by omega⟩
theorem IsL.at {w : World} {k : Nat} {v : Value} {L : List (List Value)} (h : IsL w k v L) (hn : 0 < L.length) : ∃ a cap, v = .slice (Option.some a) L.length cap ∧ L.length ≤ cap ∧ cap ≤ maxLen ∧ LAt w a k L := by
  cases h with
  | none sp sc _ => simp at hn
  | some a cap L hlen hcap h0 h => exact ⟨a, cap, rfl, hlen, hcap, h⟩

theorem flatL_len {k : Nat} : ∀ {L : List (List Value)}, (∀ l ∈ L, l.length = k) → L.flatten.length = L.length * k
  | [], _ => by simp
  | l :: L, h => by
    rw [List.flatten_cons, List.length_append, flatL_len (fun x hx => h x (List.mem_cons_of_mem _ hx)), h l List.mem_cons_self, List.length_cons, Nat.add_mul]
    omega
theorem flatL_get {k : Nat} : ∀ {L : List (List Value)}, (∀ l ∈ L, l.length = k) → ∀ i (hi : i < L.length) j, j < k → L.flatten[i * k + j]? = L[i][j]?
  | l :: L, h, 0, _, j, hj => by
    have hl := h l List.mem_cons_self
    rw [List.flatten_cons, Nat.zero_mul, Nat.zero_add, List.getElem?_append_left (by omega)]
    rfl
  | l :: L, h, i + 1, hi, j, hj => by
    have hl := h l List.mem_cons_self
    have hk : (i + 1) * k = i * k + k := Nat.succ_mul i k
    rw [List.flatten_cons, List.getElem?_append_right (by omega), hl, show (i + 1) * k + j - k = i * k + j by omega]
    exact flatL_get (fun x hx => h x (List.mem_cons_of_mem _ hx)) i (by simpa using hi) j hj
/-- What a slice of the call's own reads as. -/
theorem isL_of_owns {w : World} {base k : Nat} {e : TypeId} {v : Value} {L : List (List Value)} (hL : ∀ l ∈ L, l.length = k) (h : w.ownsRow base e k v L.length L.flatten) : IsL w k v L := by
  have hc := @World.ownsRow.cells w base e k v L.length L.flatten h
  rcases h.2 with ⟨rfl, h0⟩ | ⟨g, cap, cur, rfl, _, hh, h1, h2, _⟩
  · have : L = [] := by simpa using h0
    subst this
    exact .none _ _ (fun _ => rfl)
  · by_cases hz : L = []
    · subst hz; exact .none _ _ (fun e => by cases e)
    refine .some ⟨g, 0, none⟩ cap L h1 h2 (by cases L <;> simp_all) ⟨lt_of_block hh, fun i hi j u hu => ?_⟩
    have hj : j < k := by
      have := (List.getElem?_eq_some_iff.1 hu).1
      rwa [hL _ (List.getElem_mem hi)] at this
    have := hc rfl (i * k + j) u (by rw [flatL_get hL i hi j hj]; exact hu)
    rwa [lAdd] at this
theorem LAt.flat {w : World} {a : Addr} {k : Nat} {L : List (List Value)} (h : LAt w a k L) (hL : ∀ l ∈ L, l.length = k) (hk : 0 < k) : ∀ j u, L.flatten[j]? = some u → w.cell? (a.add j) = some u := by
  intro j u hu
  have hj : j < L.length * k := by
    have := (List.getElem?_eq_some_iff.1 hu).1
    rwa [flatL_len hL] at this
  have hi : j / k < L.length := Nat.div_lt_of_lt_mul (by rwa [Nat.mul_comm] at hj)
  have e : j = j / k * k + j % k := by rw [Nat.mul_comm]; exact (Nat.div_add_mod j k).symm
  rw [e, flatL_get hL (j / k) hi (j % k) (Nat.mod_lt _ hk)] at hu
  rw [e, lAdd]
  exact h.c _ hi _ _ hu
@[go_sem] theorem laterL_cell (W : World) (B : Nat) (x : World) (c : Addr) (h : c.block < B) : (later W B x).cell? c = W.cell? c := (later_below W B x).cell (p := c) h
@[go_sem] theorem allocL_cell (w : World) (o : Obj) (c : Addr) (h : c.block < w.heap.size) : (w.alloc o).cell? c = w.cell? c := ((Below.refl w.heap.size w).alloc (Nat.le_refl _) o).cell (p := c) h
end Go.Own
namespace Go
open Go.RowKit
namespace Own

/-- A piece of memory: its blocks, and what is known of it. -/
structure Ent where
  bs : List Nat
  F : World → Prop
/-- What is known of it hangs on its blocks alone. -/
def Ent.Ok (e : Ent) : Prop := ∀ w w' : World, (∀ b ∈ e.bs, w'.heap[b]? = w.heap[b]?) → e.F w → e.F w'
def Ent.Lt (e : Ent) : Prop := ∀ w : World, e.F w → ∀ b ∈ e.bs, b < w.heap.size
/-- Memory of the call's own: W, the world when it began, has not changed; the pieces L are its own, apart. -/
structure Own (W w : World) (L : List Ent) : Prop where
  grown : Below W.heap.size W w
  has : ∀ e ∈ L, e.F w
  ok : ∀ e ∈ L, e.Ok
  lt : ∀ e ∈ L, ∀ b ∈ e.bs, b < w.heap.size
  new : ∀ e ∈ L, ∀ b ∈ e.bs, W.heap.size ≤ b
  apart : L.Pairwise fun e f => ∀ b ∈ e.bs, b ∉ f.bs

/-- L with x in the place of y is L'. -/
inductive At {α : Type} (x y : α) : List α → List α → Prop
  | head (l : List α) : At x y (x :: l) (y :: l)
  | tail (z : α) (l l' : List α) (h : At x y l l') : At x y (z :: l) (z :: l')
theorem At.mem {α : Type} {x y : α} : ∀ {l l' : List α}, At x y l l' → x ∈ l
  | _, _, .head _ => List.mem_cons_self
  | _, _, .tail _ _ _ h => List.mem_cons_of_mem _ h.mem
theorem At.memY {α : Type} {x y : α} : ∀ {l l' : List α}, At x y l l' → y ∈ l'
  | _, _, .head _ => List.mem_cons_self
  | _, _, .tail _ _ _ h => List.mem_cons_of_mem _ h.memY
theorem At.mem' {α : Type} {x y : α} : ∀ {l l' : List α}, At x y l l' → ∀ p ∈ l', p = y ∨ p ∈ l
  | _, _, .head _, p, hp => by
    rcases List.mem_cons.1 hp with h | h
    · exact .inl h
    · exact .inr (List.mem_cons_of_mem _ h)
  | _, _, .tail z l l' h, p, hp => by
    rcases List.mem_cons.1 hp with e | e
    · exact .inr (e ▸ List.mem_cons_self)
    · rcases h.mem' p e with e | e
      · exact .inl e
      · exact .inr (List.mem_cons_of_mem _ e)
/-- The others are apart from the one that has turned. -/
theorem At.others {x y : Ent} : ∀ {l l' : List Ent}, At x y l l' → l.Pairwise (fun e f => ∀ b ∈ e.bs, b ∉ f.bs) → ∀ p ∈ l', p = y ∨ (p ∈ l ∧ ∀ b ∈ p.bs, b ∉ x.bs)
  | _, _, .head l, hn, p, hp => by
    rcases List.mem_cons.1 hp with h | h
    · exact .inl h
    · exact .inr ⟨List.mem_cons_of_mem _ h, fun b hb hx => (List.pairwise_cons.1 hn).1 p h b hx hb⟩
  | _, _, .tail z l l' h, hn, p, hp => by
    have hn' := List.pairwise_cons.1 hn
    rcases List.mem_cons.1 hp with e | e
    · exact .inr ⟨e ▸ List.mem_cons_self, fun b hb hx => hn'.1 x h.mem b (e ▸ hb) hx⟩
    · rcases h.others hn'.2 p e with e | ⟨e, e2⟩
      · exact .inl e
      · exact .inr ⟨List.mem_cons_of_mem _ e, e2⟩
theorem At.pair {x y : Ent} {N : Nat} (hxy : ∀ b ∈ y.bs, b ∈ x.bs ∨ N ≤ b) : ∀ {l l' : List Ent}, At x y l l' → (∀ e ∈ l, ∀ b ∈ e.bs, b < N) → l.Pairwise (fun e f => ∀ b ∈ e.bs, b ∉ f.bs) → l'.Pairwise (fun e f => ∀ b ∈ e.bs, b ∉ f.bs)
  | _, _, .head l, hN, hn => by
    have hn' := List.pairwise_cons.1 hn
    refine List.pairwise_cons.2 ⟨fun p hp b hb hb' => ?_, hn'.2⟩
    rcases hxy b hb with h | h
    · exact hn'.1 p hp b h hb'
    · have := hN p (List.mem_cons_of_mem _ hp) b hb'; omega
  | _, _, .tail z l l' h, hN, hn => by
    have hn' := List.pairwise_cons.1 hn
    refine List.pairwise_cons.2 ⟨fun p hp b hb hb' => ?_, h.pair hxy (fun e he => hN e (List.mem_cons_of_mem _ he)) hn'.2⟩
    rcases h.mem' p hp with e | e
    · subst e
      rcases hxy b hb' with h1 | h1
      · exact hn'.1 x h.mem b hb h1
      · have := hN z List.mem_cons_self b hb; omega
    · exact hn'.1 p e b hb hb'

theorem Own.start (W : World) : Own W W [] := ⟨Below.refl _ _, by simp, by simp, by simp, by simp, List.Pairwise.nil⟩
theorem Own.call {W w w1 : World} {L : List Ent} (h : Own W w L) (hb : Below w.heap.size w w1) : Own W w1 L :=
  ⟨h.grown.trans (hb.mono h.grown.size), fun p hp => h.ok p hp w w1 (fun b hb' => hb.block _ (h.lt p hp b hb')) (h.has p hp), h.ok, fun p hp b hb' => Nat.lt_of_lt_of_le (h.lt p hp b hb') hb.size, h.new, h.apart⟩
theorem Own.drew {W w : World} {L : List Ent} (h : Own W w L) : Own W w.drew L := h.call (Below.refl _ _).drew
/-- A piece more. -/
theorem Own.more {W w w1 : World} {L : List Ent} {e : Ent} (h : Own W w L) (hb : Below w.heap.size w w1) (hok : e.Ok) (hF : e.F w1) (hnew : ∀ b ∈ e.bs, w.heap.size ≤ b) (hlt : ∀ b ∈ e.bs, b < w1.heap.size) : Own W w1 (e :: L) := by
  have h1 := h.call hb
  refine ⟨h1.grown, fun p hp => ?_, fun p hp => ?_, fun p hp => ?_, fun p hp => ?_, List.pairwise_cons.2 ⟨fun p hp b hb hb' => ?_, h.apart⟩⟩
  · rcases List.mem_cons.1 hp with e | e
    · rw [e]; exact hF
    · exact h1.has p e
  · rcases List.mem_cons.1 hp with e | e
    · rw [e]; exact hok
    · exact h1.ok p e
  · rcases List.mem_cons.1 hp with e | e
    · rw [e]; exact hlt
    · exact h1.lt p e
  · rcases List.mem_cons.1 hp with e | e
    · rw [e]; exact fun b hb => Nat.le_trans h.grown.size (hnew b hb)
    · exact h1.new p e
  · have := h.lt p hp b hb'
    have := hnew b hb
    omega
/-- A piece turned. -/
theorem Own.turn {W w w1 : World} {L L' : List Ent} {e e' : Ent} (h : Own W w L) (hat : At e e' L L') (hs : w1.os = w.os) (ht : w1.tape = w.tape) (hp : w1.output = w.output) (hz : w.heap.size ≤ w1.heap.size)
    (hk : ∀ k, k < w.heap.size → k ∉ e.bs → w1.heap[k]? = w.heap[k]?) (hok : e'.Ok) (hF : e'.F w1) (hbs : ∀ b ∈ e'.bs, b ∈ e.bs ∨ w.heap.size ≤ b) (hlt : ∀ b ∈ e'.bs, b < w1.heap.size) : Own W w1 L' := by
  have hB := h.new _ hat.mem
  have hg := h.grown.size
  refine ⟨h.grown.trans ⟨hs, ht, hp, hz, fun k hk' => hk k (by omega) (fun hm => ?_)⟩, fun p hp => ?_, fun p hp => ?_, fun p hp => ?_, fun p hp => ?_, hat.pair hbs h.lt h.apart⟩
  · have := hB k hm; omega
  · rcases hat.others h.apart p hp with e | ⟨e, e2⟩
    · rw [e]; exact hF
    · exact h.ok p e w w1 (fun b hb => hk b (h.lt p e b hb) (e2 b hb)) (h.has p e)
  · rcases hat.mem' p hp with e | e
    · rw [e]; exact hok
    · exact h.ok p e
  · rcases hat.mem' p hp with e | e
    · rw [e]; exact hlt
    · exact fun b hb => Nat.lt_of_lt_of_le (h.lt p e b hb) hz
  · rcases hat.mem' p hp with e | e
    · rw [e]
      intro b hb
      rcases hbs b hb with h1 | h1
      · exact hB b h1
      · omega
    · exact h.new p e
theorem Own.tail {W w : World} {L : List Ent} {e : Ent} (h : Own W w (e :: L)) : Own W w L :=
  ⟨h.grown, fun q hq => h.has q (List.mem_cons_of_mem _ hq), fun q hq => h.ok q (List.mem_cons_of_mem _ hq), fun q hq => h.lt q (List.mem_cons_of_mem _ hq), fun q hq => h.new q (List.mem_cons_of_mem _ hq), (List.pairwise_cons.1 h.apart).2⟩
theorem Own.sub {W w : World} {L L' : List Ent} (h : Own W w L) (hs : L'.Sublist L) : Own W w L' :=
  ⟨h.grown, fun p hp => h.has p (hs.mem hp), fun p hp => h.ok p (hs.mem hp), fun p hp => h.lt p (hs.mem hp), fun p hp => h.new p (hs.mem hp), h.apart.sublist hs⟩
/-- Two pieces change places. -/
theorem Own.swap {W w : World} {L : List Ent} {e f : Ent} (h : Own W w (e :: f :: L)) : Own W w (f :: e :: L) := by
  have hp : (f :: e :: L).Perm (e :: f :: L) := List.Perm.swap _ _ _
  refine ⟨h.grown, fun p hq => h.has p (hp.mem_iff.1 hq), fun p hq => h.ok p (hp.mem_iff.1 hq), fun p hq => h.lt p (hp.mem_iff.1 hq), fun p hq => h.new p (hp.mem_iff.1 hq), ?_⟩
  have h1 := List.pairwise_cons.1 h.apart
  have h2 := List.pairwise_cons.1 h1.2
  exact List.pairwise_cons.2 ⟨fun p hp b hb hb' => by
    rcases List.mem_cons.1 hp with e | e
    · subst e; exact h1.1 f List.mem_cons_self b hb' hb
    · exact h2.1 p e b hb hb', List.pairwise_cons.2 ⟨fun p hp => h1.1 p (List.mem_cons_of_mem _ hp), h2.2⟩⟩
/-- The same piece, known otherwise. -/
theorem Own.as {W w : World} {L L' : List Ent} {e e' : Ent} (h : Own W w L) (hat : At e e' L L') (hok : e'.Ok) (hF : e.F w → e'.F w) (hbs : ∀ b ∈ e'.bs, b ∈ e.bs) : Own W w L' :=
  h.turn hat rfl rfl rfl (Nat.le_refl _) (fun _ _ _ => rfl) hok (hF (h.has _ hat.mem)) (fun b hb => .inl (hbs b hb)) (fun b hb => h.lt _ hat.mem b (hbs b hb))

/-! Pieces: a block; a row that is grown; a slice that is read. -/
def box (b : Nat) (o : Obj) : Ent := ⟨[b], fun w => w.heap[b]? = some o⟩
theorem box_ok (b : Nat) (o : Obj) : (box b o).Ok := fun w w' h hF => by
  simp only [box, List.mem_singleton, forall_eq] at *
  rw [h]; exact hF
def blkOf : Value → List Nat
  | .slice (some a) _ _ => [a.block]
  | _ => []
/-- A row of structs of k cells each, that the call grows; v: the slice. -/
def row (t : TypeId) (k : Nat) (v : Value) (A : List (List Value)) : Ent := ⟨blkOf v, fun w => w.ownsRow 0 t k v A.length A.flatten⟩
/-- Structs of k cells each, one behind the other; v: the slice. -/
def isl (k : Nat) (v : Value) (A : List (List Value)) : Ent := ⟨if A.length = 0 then [] else blkOf v, fun w => IsL w k v A⟩
theorem row_ok (t : TypeId) (k : Nat) (v : Value) (A : List (List Value)) : (row t k v A).Ok := fun w w' h hF => by
  obtain ⟨h1, h2⟩ := hF
  refine ⟨h1, ?_⟩
  rcases h2 with h2 | ⟨g, cap, cur, hv, hg, hh, r⟩
  · exact .inl h2
  · exact .inr ⟨g, cap, cur, hv, hg, by rw [h g (by rw [hv]; exact List.mem_singleton.2 rfl)]; exact hh, r⟩
theorem row_lt (t : TypeId) (k : Nat) (v : Value) (A : List (List Value)) : (row t k v A).Lt := fun w hF b hb => by
  rcases hF.2 with ⟨h2, _⟩ | ⟨g, cap, cur, hv, hg, hh, r⟩
  · subst h2; cases hb
  · subst hv
    have := List.mem_singleton.1 hb
    subst this
    exact lt_of_block hh
theorem isl_ok (k : Nat) (v : Value) (A : List (List Value)) : (isl k v A).Ok := fun w w' h hF => by
  simp only [isl] at hF h
  cases hF with
  | none sp sc hn => exact .none sp sc hn
  | some a cap L hlen hcap h0 hR =>
    have hb := h a.block (by rw [if_neg (by omega)]; exact List.mem_singleton.2 rfl)
    refine .some a cap _ hlen hcap h0 ⟨?_, fun i hi j u hu => ?_⟩
    · have h1 := hR.lt
      rw [Array.getElem?_eq_getElem h1] at hb
      exact lt_of_block hb
    · rw [← hR.c i hi j u hu]
      exact World.cell?_of_block (w := w) (by rw [lBlock, lBlock]; exact hb)
theorem Own.alloc {W w : World} {L : List Ent} (h : Own W w L) (o : Obj) : Own W (w.alloc o) (box w.heap.size o :: L) :=
  h.more ((Below.refl _ _).alloc (Nat.le_refl _) o) (box_ok _ _) (heap_alloc_new w o) (by simp [box]) (by simp [box])
/-- An empty row. -/
theorem Own.nil {W w : World} {L : List Ent} (h : Own W w L) (t k : Nat) : Own W w (row t k (.slice none 0 0) [] :: L) :=
  h.more (Below.refl _ _) (row_ok _ _ _ _) (World.ownsRow_nil _ _ _ _) (by simp [row, blkOf]) (by simp [row, blkOf])
/-- A row reads as a slice. -/
theorem Own.read {W w : World} {L L' : List Ent} {t k : Nat} {v : Value} {A : List (List Value)} (h : Own W w L) (hat : At (row t k v A) (isl k v A) L L') (hA : ∀ l ∈ A, l.length = k) : Own W w L' :=
  h.as hat (isl_ok _ _ _) (fun hF => isL_of_owns hA hF) (fun b hb => by simp only [isl] at hb; split at hb; · cases hb
                                                                        · exact hb)
/-- Cells put into a row. -/
def putL (cs : List Value) (off : Nat) (vs : List Value) : List Value := cs.take off ++ vs ++ cs.drop (off + vs.length)

section
variable {P : Program}
/-- The size of a type that is a struct or an array. -/
def aggSize (P : Program) (t : TypeId) : Option Nat :=
  match P.underlying t, P.info? t with
  | some (.struct _), some i => some i.size
  | some (.array _ _), some i => some i.size
  | _, _ => none
/-- Is a type of one cell? -/
def oneCellT (P : Program) (t : TypeId) : Bool :=
  match P.underlying t, P.info? t with
  | some (.struct _), _ => false
  | some (.array _ _), _ => false
  | some _, some i => i.size == 1
  | _, _ => false

theorem run_isAgg_yes {t n : Nat} (h : aggSize P t = some n) (w : World) : (isAgg t).run P w = .ok true w ∧ (sizeOf t).run P w = .ok n w := by
  unfold aggSize at h
  cases hu : P.underlying t with
  | none => simp [hu] at h
  | some d =>
    cases hi : P.info? t with
    | none => cases d <;> simp [hu, hi] at h
    | some i =>
      cases d <;> simp [hu, hi] at h <;> (subst h; constructor <;> simp [isAgg, underlying, sizeOf, typeInfo, hu, hi])
theorem run_isAgg_no {t : Nat} (h : oneCellT P t = true) (w : World) : (isAgg t).run P w = .ok false w ∧ (sizeOf t).run P w = .ok 1 w := by
  unfold oneCellT at h
  cases hu : P.underlying t with
  | none => simp [hu] at h
  | some d =>
    cases hi : P.info? t with
    | none => cases d <;> simp [hu, hi] at h
    | some i =>
      cases d <;> simp [hu, hi] at h <;> (constructor <;> simp [isAgg, underlying, sizeOf, typeInfo, hu, hi, h])

theorem cellAt {w : World} {b : Nat} {cs : List Value} {T : TypeId} (h : w.heap[b]? = some (.cells cs.toArray T)) (i : Nat) : w.cell? ⟨b, i, none⟩ = cs[i]? := by
  rw [cell_of_row w b i _ _ _ h]; simp
theorem frozenAt {w : World} {b : Nat} {cs : List Value} {T : TypeId} (h : w.heap[b]? = some (.cells cs.toArray T)) (i : Nat) : w.frozen? ⟨b, i, none⟩ = false := by
  unfold World.frozen?
  rw [show (⟨b, i, none⟩ : Addr).block = b from rfl, h]
  simp
theorem addAt (b off i : Nat) : (⟨b, off, none⟩ : Addr).add i = ⟨b, off + i, none⟩ := by unfold Addr.add; split <;> simp_all

theorem run_load_agg {W w : World} {L L' : List Ent} {b off n : Nat} {cs : List Value} {T t : TypeId} {o : Oper} {a : Act} (hO : Own W w L) (x : Operand) (ho : o.op = .load t x)
    (hx : a.eval x = .pointer (some ⟨b, off, none⟩)) (hat : At (box b (.cells cs.toArray T)) (box b (.cells cs.toArray T)) L L') (ht : aggSize P t = some n) (hn : off + n ≤ cs.length) :
    (execOp a.eval o).run P w = .ok (.value (.agg ((cs.drop off).take n).toArray)) w := by
  have hh : w.heap[b]? = some (.cells cs.toArray T) := hO.has _ hat.mem
  have hl : (loadCells ⟨b, off, none⟩ ((cs.drop off).take n).length).run P w = .ok ((cs.drop off).take n).toArray w :=
    run_loadCells_list (P := P) w ⟨b, off, none⟩ ((cs.drop off).take n) (fun j v hv => by
      rw [addAt, cellAt hh]
      rw [List.getElem?_take] at hv
      split at hv
      · rwa [List.getElem?_drop] at hv
      · cases hv)
  rw [show ((cs.drop off).take n).length = n by simp; omega] at hl
  obtain ⟨h1, h2⟩ := run_isAgg_yes ht w
  simp [execOp, ho, hx, Instr.loadAt, Instr.sureAddr, loadVar, h1, h2, hl]
theorem run_load_one {W w : World} {L L' : List Ent} {b off : Nat} {cs : List Value} {v : Value} {T t : TypeId} {o : Oper} {a : Act} (hO : Own W w L) (x : Operand) (ho : o.op = .load t x)
    (hx : a.eval x = .pointer (some ⟨b, off, none⟩)) (hat : At (box b (.cells cs.toArray T)) (box b (.cells cs.toArray T)) L L') (ht : oneCellT P t = true) (hv : cs[off]? = some v) :
    (execOp a.eval o).run P w = .ok (.value v) w := by
  have hh : w.heap[b]? = some (.cells cs.toArray T) := hO.has _ hat.mem
  obtain ⟨h1, h2⟩ := run_isAgg_no ht w
  simp [execOp, ho, hx, Instr.loadAt, Instr.sureAddr, loadVar, h1, cellAt hh, hv]

/-- All of a row's cells are one cell's. -/
theorem run_storeCells_own : ∀ (vs : List Value) (w : World) (b off i : Nat) (cs : List Value) (T : TypeId), w.heap[b]? = some (.cells cs.toArray T) → off + i + vs.length ≤ cs.length → (∀ v ∈ vs, v.oneCell' = true) →
    ∃ w', (storeCells ⟨b, off, none⟩ vs i).run P w = .ok () w' ∧ w'.os = w.os ∧ w'.tape = w.tape ∧ w'.output = w.output ∧ w'.heap.size = w.heap.size ∧ (∀ k, k ≠ b → w'.heap[k]? = w.heap[k]?) ∧
      w'.heap[b]? = some (.cells (putL cs (off + i) vs).toArray T)
  | [], w, b, off, i, cs, T, h, _, _ => ⟨w, rfl, rfl, rfl, rfl, rfl, fun _ _ => rfl, by simpa [putL] using h⟩
  | v :: vs, w, b, off, i, cs, T, h, hn, h1 => by
    have hi : off + i < cs.length := by simp at hn; omega
    have hc : w.cell? ⟨b, off + i, none⟩ = some cs[off + i] := by rw [cellAt h]; simp [hi]
    have hv := h1 v List.mem_cons_self
    have hset : (w.setCell ⟨b, off + i, none⟩ v).heap[b]? = some (.cells (cs.set (off + i) v).toArray T) := by
      simp [World.setCell, Array.getElem?_modify, h]
    obtain ⟨w', hr, e1, e2, e3, e4, e5, e6⟩ := run_storeCells_own vs (w.setCell ⟨b, off + i, none⟩ v) b off (i + 1) (cs.set (off + i) v) T hset (by simp at hn ⊢; omega) (fun x hx => h1 x (List.mem_cons_of_mem _ hx))
    refine ⟨w', ?_, e1, e2, e3, by rw [e4]; simp, fun k hk => (e5 k hk).trans (Below.heap_setCell _ _ _ _ hk), ?_⟩
    · unfold storeCells
      rw [Sem.run_bind, addAt, run_store P w _ v .plain hv, hc]
      simp only [frozenAt h, Bool.false_eq_true, if_false, Result.andThen_ok]
      exact hr
    · rw [e6]
      have : putL (cs.set (off + i) v) (off + (i + 1)) vs = putL cs (off + i) (v :: vs) := by
        unfold putL
        have e1 : (cs.set (off + i) v).take (off + (i + 1)) = cs.take (off + i) ++ [v] := by
          rw [← Nat.add_assoc, List.take_succ_eq_append_getElem (by simpa using hi)]
          rw [List.take_set_of_le (Nat.le_refl _)]
          simp
        have e2 : (cs.set (off + i) v).drop (off + (i + 1) + vs.length) = cs.drop (off + i + (v :: vs).length) := by
          rw [List.drop_set_of_lt (by omega)]
          congr 1
          simp; omega
        rw [e1, e2]
        simp
      rw [this]

theorem run_store_own {W w : World} {L L' : List Ent} {b off : Nat} {cs vs : List Value} {v : Value} {T t : TypeId} {o : Oper} {a : Act} (hO : Own W w L) (x y : Operand) (ho : o.op = .store t x y)
    (hx : a.eval x = .pointer (some ⟨b, off, none⟩)) (hy : a.eval y = v) (hv : v.cells = vs.toArray) (hat : At (box b (.cells cs.toArray T)) (box b (.cells (putL cs off vs).toArray T)) L L') (ht : (P.info? t).map (·.size) = some vs.length) (hn : off + vs.length ≤ cs.length)
    (h1 : ∀ u ∈ vs, u.oneCell' = true) : ∃ w', (execOp a.eval o).run P w = .ok .skip w' ∧ Own W w' L' := by
  have hh : w.heap[b]? = some (.cells cs.toArray T) := hO.has _ hat.mem
  obtain ⟨w', hr, e1, e2, e3, e4, e5, e6⟩ := run_storeCells_own (P := P) vs w b off 0 cs T hh hn h1
  refine ⟨w', ?_, hO.turn hat e1 e2 e3 (by omega) (fun k _ hk => e5 k (by simpa [box] using hk)) (box_ok _ _) e6 (fun b hb => .inl hb) (fun c hc => by have := List.mem_singleton.1 hc; subst this; exact lt_of_block e6)⟩
  cases hi : P.info? t with
  | none => simp [hi] at ht
  | some i =>
    have hs : i.size = vs.length := by simpa [hi] using ht
    have hs2 : vs.length = i.size := hs.symm
    simp [execOp, ho, hx, hy, Instr.storeAt, Instr.sureAddr, storeVar, sizeOf, typeInfo, hi, hv, hs2, hr]

theorem run_box_own {W w : World} {L : List Ent} {v : Value} {t : TypeId} {o : Oper} {a : Act} (hO : Own W w L) (x : Operand) (ho : o.op = .box t x) (hx : a.eval x = v) :
    ∃ w' b, (execOp a.eval o).run P w = .ok (.value (.pointer (some ⟨b, 0, none⟩))) w' ∧ Own W w' (box b (.cells v.cells t) :: L) :=
  ⟨_, _, by simp [execOp, ho, hx, Instr.box, newVar, newRow], hO.alloc (.cells v.cells t)⟩
theorem run_alloc_own {W w : World} {L : List Ent} {v : Value} {t : TypeId} {o : Oper} {a : Act} (hO : Own W w L) (ho : o.op = .alloc t) (hz : ((P.info? t).bind (·.zero)) = some v) :
    ∃ w' b, (execOp a.eval o).run P w = .ok (.value (.pointer (some ⟨b, 0, none⟩))) w' ∧ Own W w' (box b (.cells v.cells t) :: L) := by
  cases hi : P.info? t with
  | none => simp [hi] at hz
  | some i =>
    have hz' : i.zero = some v := by simpa [hi] using hz
    exact ⟨_, _, by simp [execOp, ho, Instr.alloc, zeroValue, typeInfo, hi, hz', newVar, newRow], hO.alloc (.cells v.cells t)⟩

theorem run_load_old1 {W w : World} {L : List Ent} {p : Addr} {v : Value} {t : TypeId} {o : Oper} {a : Act} (hO : Own W w L) (x : Operand) (ho : o.op = .load t x)
    (hx : a.eval x = .pointer (some p)) (hp : p.block < W.heap.size) (hl : W.cell? p = some v) (ht : oneCellT P t = true) :
    (execOp a.eval o).run P w = .ok (.value v) w := by
  obtain ⟨h1, h2⟩ := run_isAgg_no ht w
  have hc : w.cell? p = some v := (hO.grown.cell (p := p) hp).trans hl
  simp [execOp, ho, hx, Instr.loadAt, Instr.sureAddr, loadVar, h1, hc]

/-! What a type is: found by its number. -/
class IsAgg (P : Program) (t : TypeId) (n : outParam Nat) : Prop where out : aggSize P t = some n
class IsOne (P : Program) (t : TypeId) : Prop where out : oneCellT P t = true
class HasSize (P : Program) (t : TypeId) (n : outParam Nat) : Prop where out : (P.info? t).map (·.size) = some n
class HasZero (P : Program) (t : TypeId) (v : outParam Value) : Prop where out : (P.info? t).bind (·.zero) = some v

/-! The operations in a list of operations. -/
section
variable {ops : Array Oper} {rest : List Oper} {o : Oper} {a : Act} {W w : World} {Q : Exit → Act → World → Prop} {L L' : List Ent}

theorem wpList_value {v : Value} {w' : World} (hw : Region.wanted o (yielded ops a.tmps) = true) (hr : (execOp a.eval o).run P w = .ok (.value v) w') (h : wpList P ops Q rest (a.put o.dst v) w') : wpList P ops Q (o :: rest) a w := by
  unfold wpList
  rw [if_pos hw]
  left
  unfold Oper.wp
  rw [hr]
  exact h
theorem wpList_skipped {w' : World} (hw : Region.wanted o (yielded ops a.tmps) = true) (hr : (execOp a.eval o).run P w = .ok .skip w') (h : wpList P ops Q rest (a.put o.dst undef) w') : wpList P ops Q (o :: rest) a w := by
  unfold wpList
  rw [if_pos hw]
  left
  unfold Oper.wp
  rw [hr]
  exact h
theorem wpList_loadAll {b n : Nat} {cs : List Value} {T t : TypeId} (hO : Own W w L) {x : Operand} (ho : o.op = .load t x) (hx : a.eval x = .pointer (some ⟨b, 0, none⟩)) (hat : At (box b (.cells cs.toArray T)) (box b (.cells cs.toArray T)) L L')
    (ht : IsAgg P t n) (hn : cs.length = n) (hw : Region.wanted o (yielded ops a.tmps) = true) (h : wpList P ops Q rest (a.put o.dst (.agg cs.toArray)) w) : wpList P ops Q (o :: rest) a w :=
  wpList_value hw (run_load_agg hO x ho hx hat ht.out (by omega)) (by rw [List.drop_zero, List.take_of_length_le (by omega)]; exact h)
theorem wpList_loadPart {b off n : Nat} {cs l : List Value} {T t : TypeId} (hO : Own W w L) {x : Operand} (ho : o.op = .load t x) (hx : a.eval x = .pointer (some ⟨b, off, none⟩)) (hat : At (box b (.cells cs.toArray T)) (box b (.cells cs.toArray T)) L L')
    (ht : IsAgg P t n) (hn : off + n ≤ cs.length) (hl : (cs.drop off).take n = l) (hw : Region.wanted o (yielded ops a.tmps) = true) (h : wpList P ops Q rest (a.put o.dst (.agg l.toArray)) w) : wpList P ops Q (o :: rest) a w :=
  wpList_value hw (run_load_agg hO x ho hx hat ht.out hn) (by rw [hl]; exact h)
theorem wpList_loadOne {b off : Nat} {cs : List Value} {v : Value} {T t : TypeId} (hO : Own W w L) {x : Operand} (ho : o.op = .load t x) (hx : a.eval x = .pointer (some ⟨b, off, none⟩)) (hat : At (box b (.cells cs.toArray T)) (box b (.cells cs.toArray T)) L L')
    (hv : cs[off]? = some v) (ht : IsOne P t) (hw : Region.wanted o (yielded ops a.tmps) = true) (h : wpList P ops Q rest (a.put o.dst v) w) : wpList P ops Q (o :: rest) a w :=
  wpList_value hw (run_load_one hO x ho hx hat ht.out hv) h
theorem wpList_loadOld1 {p : Addr} {v : Value} {t : TypeId} (hO : Own W w L) {x : Operand} (ho : o.op = .load t x) (hx : a.eval x = .pointer (some p)) (hp : p.block < W.heap.size) (hl : W.cell? p = some v)
    (ht : IsOne P t) (hw : Region.wanted o (yielded ops a.tmps) = true) (h : wpList P ops Q rest (a.put o.dst v) w) : wpList P ops Q (o :: rest) a w :=
  wpList_value hw (run_load_old1 hO x ho hx hp hl ht.out) h
/-- A struct, or an array, stored into all of a row. -/
theorem wpList_storeAll {b n : Nat} {cs vs : List Value} {T t : TypeId} (hO : Own W w L) {x y : Operand} (ho : o.op = .store t x y) (hx : a.eval x = .pointer (some ⟨b, 0, none⟩)) (hy : a.eval y = .agg vs.toArray)
    (hat : At (box b (.cells cs.toArray T)) (box b (.cells vs.toArray T)) L L') (ht : HasSize P t n) (hn : cs.length = n) (hn' : vs.length = n) (h1 : (vs.all fun u => u.oneCell') = true)
    (hw : Region.wanted o (yielded ops a.tmps) = true) (h : ∀ w', Own W w' L' → wpList P ops Q rest (a.put o.dst undef) w') : wpList P ops Q (o :: rest) a w := by
  have hp : putL cs 0 vs = vs := by unfold putL; simp; omega
  obtain ⟨w', hr, hO'⟩ := run_store_own (P := P) (L' := L') (vs := vs) hO x y ho hx hy rfl (by rw [hp]; exact hat) (by rw [ht.out, hn']) (by omega) (List.all_eq_true.1 h1)
  exact wpList_skipped hw hr (h w' hO')
theorem wpList_storePart {b off n : Nat} {cs cs' vs : List Value} {v : Value} {T t : TypeId} (hO : Own W w L) {x y : Operand} (ho : o.op = .store t x y) (hx : a.eval x = .pointer (some ⟨b, off, none⟩)) (hy : a.eval y = v) (hv : v.cells = vs.toArray)
    (hat : At (box b (.cells cs.toArray T)) (box b (.cells cs'.toArray T)) L L') (ht : HasSize P t n) (hn' : vs.length = n) (hn : off + n ≤ cs.length) (hp : putL cs off vs = cs') (h1 : (vs.all fun u => u.oneCell') = true)
    (hw : Region.wanted o (yielded ops a.tmps) = true) (h : ∀ w', Own W w' L' → wpList P ops Q rest (a.put o.dst undef) w') : wpList P ops Q (o :: rest) a w := by
  obtain ⟨w', hr, hO'⟩ := run_store_own (P := P) (L' := L') (vs := vs) hO x y ho hx hy hv (by rw [hp]; exact hat) (by rw [ht.out, hn']) (by omega) (List.all_eq_true.1 h1)
  exact wpList_skipped hw hr (h w' hO')
theorem wpList_storeOne {b off : Nat} {cs cs' : List Value} {v : Value} {T t : TypeId} (hO : Own W w L) {x y : Operand} (ho : o.op = .store t x y) (hx : a.eval x = .pointer (some ⟨b, off, none⟩)) (hy : a.eval y = v) (hv : v.oneCell' = true)
    (hat : At (box b (.cells cs.toArray T)) (box b (.cells cs'.toArray T)) L L') (ht : HasSize P t 1) (hn : off < cs.length) (hp : cs.set off v = cs')
    (hw : Region.wanted o (yielded ops a.tmps) = true) (h : ∀ w', Own W w' L' → wpList P ops Q rest (a.put o.dst undef) w') : wpList P ops Q (o :: rest) a w := by
  have hp' : putL cs off [v] = cs' := by
    rw [← hp]; unfold putL
    rw [List.set_eq_take_append_cons_drop, if_pos hn]; simp
  obtain ⟨w', hr, hO'⟩ := run_store_own (P := P) (L' := L') (vs := [v]) hO x y ho hx hy (by cases v <;> first | rfl | cases hv) (by rw [hp']; exact hat) (by rw [ht.out]; rfl) (by simp; omega) (by simpa using hv)
  exact wpList_skipped hw hr (h w' hO')
theorem wpList_box {v : Value} {t : TypeId} (n : Nat) (hO : Own W w L) (_hn : L.length = n) {x : Operand} (ho : o.op = .box t x) (hx : a.eval x = v) {cs : Array Value} (hc : v.cells = cs)
    (hw : Region.wanted o (yielded ops a.tmps) = true) (h : ∀ b w', Own W w' (box b (.cells cs t) :: L) → wpList P ops Q rest (a.put o.dst (.pointer (some ⟨b, 0, none⟩))) w') : wpList P ops Q (o :: rest) a w := by
  obtain ⟨w', b, hr, hO'⟩ := run_box_own (P := P) hO x ho hx
  exact wpList_value hw hr (h b w' (by rw [← hc]; exact hO'))
theorem wpList_boxAgg {cs : Array Value} {t : TypeId} (n : Nat) (hO : Own W w L) (hn : L.length = n) {x : Operand} (ho : o.op = .box t x) (hx : a.eval x = .agg cs)
    (hw : Region.wanted o (yielded ops a.tmps) = true) (h : ∀ b w', Own W w' (box b (.cells cs t) :: L) → wpList P ops Q rest (a.put o.dst (.pointer (some ⟨b, 0, none⟩))) w') : wpList P ops Q (o :: rest) a w :=
  wpList_box n hO hn ho hx rfl hw h
theorem wpList_allocAgg {cs : Array Value} {t : TypeId} (n : Nat) (hO : Own W w L) (_hn : L.length = n) (ho : o.op = .alloc t) (hz : HasZero P t (.agg cs))
    (hw : Region.wanted o (yielded ops a.tmps) = true) (h : ∀ b w', Own W w' (box b (.cells cs t) :: L) → wpList P ops Q rest (a.put o.dst (.pointer (some ⟨b, 0, none⟩))) w') : wpList P ops Q (o :: rest) a w := by
  obtain ⟨w', b, hr, hO'⟩ := run_alloc_own (P := P) hO ho hz.out
  exact wpList_value hw hr (h b w' hO')
end

/-! Append. -/
class IsSlice (P : Program) (t : TypeId) (e : outParam TypeId) : Prop where out : P.underlying t = some (.slice e)
class IsElem (P : Program) (e : TypeId) (k : outParam Nat) (bytes : outParam Nat) : Prop where
  out : ((P.info? e).bind fun i => i.zero.map fun z => (z.cells.size, i.size, i.bytes)) = some (k, k, bytes)
  pos : 0 < k
theorem run_append_row {w : World} {t ty e k bytes m c : Nat} {v : Value} {A N : List (List Value)} {p : Addr} (ht : P.underlying t = some (.slice e)) (he : IsElem P e k bytes) (hown : w.ownsRow 0 e k v A.length A.flatten)
    (hm : N.length = m) (hN : ∀ l ∈ N, l.length = k) (hnews : ∀ j u, N.flatten[j]? = some u → w.cell? (p.add j) = some u) (h1 : ∀ u ∈ N.flatten, u.oneCell' = true) (h63 : A.length + m ≤ maxLen) (hbytes : (A.length + m) * bytes ≤ 140737488355328) :
    ∃ v' w', (Builtin.append_ #[t, t] ty #[v, .slice (some p) m c]).run P w = .ok v' w' ∧ w'.ownsRow 0 e k v' (A ++ N).length (A ++ N).flatten ∧ w.grownBy w' v.ownBlock ∧ (∀ b, v'.ownBlock = some b → v.ownBlock = some b ∨ w.heap.size ≤ b) ∧
      (v' = .slice none 0 0 ↔ v = .slice none 0 0 ∧ m = 0) := by
  have ho := he.out
  have hp := he.pos
  cases hi : P.info? e with
  | none => simp [hi] at ho
  | some i =>
    cases hz : i.zero with
    | none => simp [hi, hz] at ho
    | some z =>
      simp only [hi, hz, Option.bind_some, Option.map_some, Option.some.injEq, Prod.mk.injEq] at ho
      obtain ⟨hzs, hsize, hby⟩ := ho
      have hl : N.flatten.length = m * k := by rw [flatL_len hN, hm]
      obtain ⟨v', w', hr, h2, h3, h4⟩ := run_append_own (P := P) w 0 t ty e i z k bytes ht hi hz hsize hby hzs hp v A.length A.flatten hown p m c N.flatten hl hnews h1 h63 hbytes (Nat.zero_le _)
      refine ⟨v', w', hr, by rw [List.length_append, List.flatten_append, hm]; exact h2, h3, ?_, h4⟩
      rcases hown.2 with ⟨rfl, h0⟩ | ⟨g, cap, cur, rfl, hbg, hg, hnc, hcm, hcs, htake⟩
      · obtain ⟨v2, w2, hr2, h5, h6, h7⟩ := run_append_own (P := P) w w.heap.size t ty e i z k bytes ht hi hz hsize hby hzs hp (.slice none 0 0) A.length A.flatten ⟨hown.1, .inl ⟨rfl, h0⟩⟩ p m c N.flatten hl hnews h1 h63 hbytes (Nat.le_refl _)
        rw [hr] at hr2
        cases hr2
        exact fun b hb => .inr (h5.lt b hb).1
      · subst hsize
        have hsmall : A.length + m ≤ 9223372036854775807 := by simp only [maxLen] at h63; omega
        by_cases hroom : A.length + m ≤ cap
        · have hfit : A.length * i.size + N.flatten.length ≤ cur.size := by rw [hl, hcs, ← Nat.add_mul]; exact Nat.mul_le_mul_right _ hroom
          have hr2 := run_append_room (P := P) w t ty e i ht hi g A.length cap cur hg p m c N.flatten hl hnews h1 hroom hfit
          rw [hr] at hr2
          cases hr2
          exact fun b hb => .inl hb
        · have holds : ∀ j u, A.flatten[j]? = some u → w.cell? ((⟨g, 0, none⟩ : Addr).add j) = some u := hown.cells (g := g) rfl
          subst hby
          have hr2 := run_append_grow (P := P) w t ty e i z ht hi hz ⟨g, 0, none⟩ A.length cap A.flatten hown.1 holds p m c N.flatten hl hnews (by omega) (by omega) (growslice_fits (by omega) hbytes)
          rw [hr] at hr2
          cases hr2
          exact fun b hb => .inr (by simp [Value.ownBlock] at hb; omega)
theorem blkOf_own {v : Value} {b : Nat} : b ∈ blkOf v ↔ v.ownBlock = some b := by
  cases v <;> simp [blkOf, Value.ownBlock]
  rename_i a _ _
  cases a <;> simp [eq_comm]
section
variable {ops : Array Oper} {rest : List Oper} {o : Oper} {a : Act} {W w : World} {Q : Exit → Act → World → Prop} {L L' : List Ent}
/-- append of structs that lie in memory onto a row. -/
theorem wpList_append {s x : Operand} {t e k bytes m c : Nat} {v : Value} {A N : List (List Value)} {p : Addr} {L' : Value → List Ent} (hO : Own W w L) (ho : o.op = .call { callee := .builtin .append, args := #[s, x], argTypes := #[t, t] })
    (ht : IsSlice P t e) (he : IsElem P e k bytes) (hs : a.eval s = v) (hx : a.eval x = .slice (some p) m c) (hat : ∀ v', At (row e k v A) (row e k v' (A ++ N)) L (L' v')) (hm : N.length = m) (hN : ∀ l ∈ N, l.length = k)
    (hnews : ∀ j u, N.flatten[j]? = some u → w.cell? (p.add j) = some u) (h1 : ∀ u ∈ N.flatten, u.oneCell' = true) (h63 : A.length + m ≤ maxLen) (hbytes : (A.length + m) * bytes ≤ 140737488355328)
    (hw : Region.wanted o (yielded ops a.tmps) = true) (h : ∀ v' w', Own W w' (L' v') → (v' = .slice none 0 0 ↔ v = .slice none 0 0 ∧ m = 0) → wpList P ops Q rest (a.put o.dst v') w') : wpList P ops Q (o :: rest) a w := by
  obtain ⟨v', w', hr, h2, h3, h4, h5⟩ := run_append_row (P := P) (ty := o.type) (c := c) ht.out he (hO.has _ (hat v).mem) hm hN hnews h1 h63 hbytes
  have hrun : (execOp a.eval o).run P w = .ok (.value v') w' := by
    unfold execOp
    simp only [ho, resolve, invoke, builtin, Sem.run_bind, Sem.run_pure, Result.andThen_ok, List.map_toArray, List.map_cons, List.map_nil, hs, hx, hr]
  refine wpList_value hw hrun (h v' w' ?_ h5)
  refine hO.turn (hat v') h3.os h3.tape h3.output h3.size (fun b hb hnb => h3.block b hb (fun e => hnb (blkOf_own.2 e.symm))) (row_ok _ _ _ _) h2 (fun b hb => ?_) (row_lt _ _ _ _ w' h2)
  rcases h4 b (blkOf_own.1 hb) with h | h
  · exact .inl (blkOf_own.2 h)
  · exact .inr h
/-- append of one struct, just laid in a block of its own. -/
theorem wpList_push1 {s x : Operand} {t e k bytes b : Nat} {v : Value} {A : List (List Value)} {l : List Value} {L' : Value → List Ent} (hO : Own W w (box b (.cells l.toArray e) :: L)) (ho : o.op = .call { callee := .builtin .append, args := #[s, x], argTypes := #[t, t] })
    (ht : IsSlice P t e) (he : IsElem P e k bytes) (hs : a.eval s = v) (hx : a.eval x = .slice (some ⟨b, 0, none⟩) 1 1) (hat : ∀ v', At (row e k v A) (row e k v' (A ++ [l])) L (L' v')) (hl : l.length = k)
    (h1 : (l.all fun u => u.oneCell') = true) (h63 : A.length + 1 ≤ 1000000) (hb : bytes ≤ 1000000)
    (hw : Region.wanted o (yielded ops a.tmps) = true) (h : ∀ v' w', Own W w' (L' v') → (∃ p n c, v' = .slice p n c) → wpList P ops Q rest (a.put o.dst v') w') : wpList P ops Q (o :: rest) a w := by
  have hbox : w.heap[b]? = some (.cells l.toArray e) := hO.has (box b (.cells l.toArray e)) List.mem_cons_self
  refine wpList_append (L' := fun v' => box b (.cells l.toArray e) :: L' v') (A := A) (N := [l]) hO ho ht he hs hx (fun v' => .tail _ _ _ (hat v')) rfl (by simpa using hl) (fun j u hu => ?_) (fun u hu => ?_) (by unfold maxLen; omega) ?_ hw (fun v' w' h2 h3 => ?_)
  · rw [addAt, Nat.zero_add, cellAt hbox]; simpa using hu
  · simp only [List.flatten_cons, List.flatten_nil, List.append_nil] at hu
    exact List.all_eq_true.1 h1 u hu
  · have := Nat.mul_le_mul h63 hb
    omega
  · refine h v' w' h2.tail ?_
    have hF : w'.ownsRow 0 e k v' (A ++ [l]).length (A ++ [l]).flatten := by
      exact h2.tail.has _ (hat v').memY
    rcases hF.2 with ⟨rfl, _⟩ | ⟨g, cap, cur, rfl, _⟩
    · exact ⟨_, _, _, rfl⟩
    · exact ⟨_, _, _, rfl⟩
end

/-! Regions that draw their order. -/
noncomputable def lot (W : World) (L : List Ent) (w x : World) : World := open Classical in if Own W x L then x else w
theorem own_lot {W w : World} {L : List Ent} (h : Own W w L) (x : World) : Own W (lot W L w x) L := by
  unfold lot; split
  · assumption
  · exact h
theorem lot_of {W x : World} {L : List Ent} (w : World) (h : Own W x L) : x = lot W L w x := by unfold lot; rw [if_pos h]
/-- The worlds in which the blocks L are the call's own: those that F yields. -/
structure Fam (W : World) (L : List Ent) (F : World → World) : Prop where
  own : ∀ x, Own W (F x) L
  all : ∀ w', Own W w' L → ∃ x, w' = F x
theorem region_own {Q : Exit → Act → World → Prop} {W w : World} {L : List Ent} {id : Nat} {a : Act} {l : List Oper} (hO : Own W w L) (hm : P.follows .mixedOrders = true) (hB : Region.lexB .any l.toArray = true)
    (h : ∀ F : World → World, Fam W L F → wpQuiet P l.toArray (fun w' => ∃ x, w' = F x) (fun a' => ∀ x, Q .normal a' (F x)) l a) : (Code.region id l.toArray true).wp P Q a w := by
  have hF : Fam W L (lot W L w) := ⟨own_lot hO, fun w' hw' => ⟨w', lot_of w hw'⟩⟩
  refine wp_region_quiet (C := fun w' => ∃ x, w' = lot W L w x) hm hB (hF.all _ hO.drew) ?_
  have h' := h _ hF
  have e : (fun a' => ∀ x, Q .normal a' (lot W L w x)) = (fun a' => ∀ w', (∃ x, w' = lot W L w x) → Q .normal a' w') := by
    funext a'
    exact propext ⟨fun hh w' ⟨x, hx⟩ => hx ▸ hh x, fun hh x => hh _ ⟨x, rfl⟩⟩
  rw [e] at h'
  simpa using h'
theorem calls_fam {W x : World} {L : List Ent} {F : World → World} {f : FuncId} {args : Array Value} {v : Value} (hF : Fam W L F)
    (h : Calls P f args (F x) fun e w' => e = .returned v ∧ Below (F x).heap.size (F x) w') :
    Calls P f args (F x) fun e w'' => e = .returned v ∧ ∃ y, w'' = F y :=
  h.mono fun _ _ ⟨he, hw⟩ => ⟨he, hF.all _ ((hF.own x).call hw)⟩
section
variable {ops : Array Oper} {rest : List Oper} {o : Oper} {a : Act} {W : World} {F : World → World} {Q : Act → Prop} {L L' : List Ent}
theorem wpQuiet_value {v : Value} {C : World → Prop} (hw : Region.wanted o (yielded ops a.tmps) = true) (hr : ∀ w', C w' → (execOp a.eval o).run P w' = .ok (.value v) w') (h : wpQuiet P ops C Q rest (a.put o.dst v)) :
    wpQuiet P ops C Q (o :: rest) a := by
  unfold wpQuiet
  rw [if_pos hw]
  refine ⟨v, fun w' hw' => ?_, h⟩
  unfold Oper.quietAt
  rw [hr w' hw']
  exact ⟨rfl, rfl⟩
theorem wpQuiet_loadAll {b n : Nat} {cs : List Value} {T t : TypeId} (hF : Fam W L F) {x : Operand} (ho : o.op = .load t x) (hx : a.eval x = .pointer (some ⟨b, 0, none⟩)) (hat : At (box b (.cells cs.toArray T)) (box b (.cells cs.toArray T)) L L')
    (ht : IsAgg P t n) (hn : cs.length = n) (hw : Region.wanted o (yielded ops a.tmps) = true) (h : wpQuiet P ops (fun w' => ∃ x, w' = F x) Q rest (a.put o.dst (.agg cs.toArray))) : wpQuiet P ops (fun w' => ∃ x, w' = F x) Q (o :: rest) a :=
  wpQuiet_value (v := .agg cs.toArray) hw (fun w' ⟨y, hy⟩ => by
    rw [run_load_agg (hy ▸ hF.own y) x ho hx hat ht.out (by omega), List.drop_zero, List.take_of_length_le (by omega)]) h
theorem wpQuiet_loadPart {b off n : Nat} {cs l : List Value} {T t : TypeId} (hF : Fam W L F) {x : Operand} (ho : o.op = .load t x) (hx : a.eval x = .pointer (some ⟨b, off, none⟩)) (hat : At (box b (.cells cs.toArray T)) (box b (.cells cs.toArray T)) L L')
    (ht : IsAgg P t n) (hn : off + n ≤ cs.length) (hl : (cs.drop off).take n = l) (hw : Region.wanted o (yielded ops a.tmps) = true) (h : wpQuiet P ops (fun w' => ∃ x, w' = F x) Q rest (a.put o.dst (.agg l.toArray))) :
    wpQuiet P ops (fun w' => ∃ x, w' = F x) Q (o :: rest) a :=
  wpQuiet_value (v := .agg l.toArray) hw (fun _ ⟨y, hy⟩ => by rw [run_load_agg (hy ▸ hF.own y) x ho hx hat ht.out hn, hl]) h
theorem wpQuiet_loadOne {b off : Nat} {cs : List Value} {v : Value} {T t : TypeId} (hF : Fam W L F) {x : Operand} (ho : o.op = .load t x) (hx : a.eval x = .pointer (some ⟨b, off, none⟩)) (hat : At (box b (.cells cs.toArray T)) (box b (.cells cs.toArray T)) L L')
    (hv : cs[off]? = some v) (ht : IsOne P t) (hw : Region.wanted o (yielded ops a.tmps) = true) (h : wpQuiet P ops (fun w' => ∃ x, w' = F x) Q rest (a.put o.dst v)) : wpQuiet P ops (fun w' => ∃ x, w' = F x) Q (o :: rest) a :=
  wpQuiet_value (v := v) hw (fun _ ⟨y, hy⟩ => run_load_one (hy ▸ hF.own y) x ho hx hat ht.out hv) h
theorem wpQuiet_loadOld1 {p : Addr} {v : Value} {t : TypeId} (hF : Fam W L F) {x : Operand} (ho : o.op = .load t x) (hx : a.eval x = .pointer (some p)) (hp : p.block < W.heap.size) (hl : W.cell? p = some v)
    (ht : IsOne P t) (hw : Region.wanted o (yielded ops a.tmps) = true) (h : wpQuiet P ops (fun w' => ∃ x, w' = F x) Q rest (a.put o.dst v)) : wpQuiet P ops (fun w' => ∃ x, w' = F x) Q (o :: rest) a :=
  wpQuiet_value (v := v) hw (fun _ ⟨y, hy⟩ => run_load_old1 (hy ▸ hF.own y) x ho hx hp hl ht.out) h
end
end
end Own
end Go
namespace Go.Proofs.YtibabfedpdoofaaGreatDoor
open Go.Own
instance : IsOne Tryz.prog 92 := ⟨by kernel_rfl⟩
instance : IsAgg Tryz.prog 138 9 := ⟨by kernel_rfl⟩
instance : HasZero Tryz.prog 98 (.agg #[.int .i64 0, .int .i64 0, .int .i64 0, .int .i64 0, .int .i64 0, .int .i64 0, .int .i64 0, .int .i64 0, .int .i64 0, .int .i64 0, .int .i64 0, .int .i64 0, .int .i64 0, .int .i64 0, .int .i64 0, .int .i64 0, .int .i64 0, .int .i64 0, .int .i64 0, .int .i64 0, .int .i64 0, .int .i64 0, .int .i64 0, .int .i64 0, .int .i64 0, .int .i64 0, .int .i64 0, .int .i64 0, .int .i64 0, .int .i64 0, .int .i64 0, .int .i64 0, .int .i64 0, .int .i64 0, .int .i64 0, .int .i64 0, .int .i64 0, .int .i64 0, .int .i64 0, .int .i64 0, .int .i64 0, .int .i64 0, .int .i64 0, .int .i64 0, .int .i64 0, .int .i64 0, .int .i64 0, .int .i64 0, .int .i64 0, .int .i64 0, .int .i64 0, .int .i64 0, .int .i64 0, .int .i64 0, .int .i64 0, .int .i64 0, .int .i64 0, .int .i64 0, .int .i64 0, .int .i64 0, .int .i64 0]) := ⟨by kernel_rfl⟩
instance : IsAgg Tryz.prog 243 6 := ⟨by kernel_rfl⟩
instance : HasSize Tryz.prog 243 6 := ⟨by kernel_rfl⟩
instance : HasZero Tryz.prog 243 (.agg #[.string ⟨#[]⟩, .string ⟨#[]⟩, .string ⟨#[]⟩, .string ⟨#[]⟩, .string ⟨#[]⟩, .string ⟨#[]⟩]) := ⟨by kernel_rfl⟩
instance : IsOne Tryz.prog 67 := ⟨by kernel_rfl⟩
instance : HasSize Tryz.prog 67 1 := ⟨by kernel_rfl⟩
instance : IsSlice Tryz.prog 67 158 := ⟨by kernel_rfl⟩
instance : IsSlice Tryz.prog 22 34 := ⟨by kernel_rfl⟩
instance : IsOne Tryz.prog 104 := ⟨by kernel_rfl⟩
instance : HasSize Tryz.prog 104 1 := ⟨by kernel_rfl⟩
instance : IsSlice Tryz.prog 104 187 := ⟨by kernel_rfl⟩
instance : IsOne Tryz.prog 30 := ⟨by kernel_rfl⟩
instance : HasSize Tryz.prog 30 1 := ⟨by kernel_rfl⟩
instance : IsSlice Tryz.prog 30 160 := ⟨by kernel_rfl⟩
instance : IsSlice Tryz.prog 88 86 := ⟨by kernel_rfl⟩
instance : IsOne Tryz.prog 148 := ⟨by kernel_rfl⟩
instance : HasSize Tryz.prog 148 1 := ⟨by kernel_rfl⟩
instance : IsSlice Tryz.prog 148 124 := ⟨by kernel_rfl⟩
instance : IsOne Tryz.prog 56 := ⟨by kernel_rfl⟩
instance : HasSize Tryz.prog 56 1 := ⟨by kernel_rfl⟩
instance : IsSlice Tryz.prog 56 178 := ⟨by kernel_rfl⟩
instance : IsOne Tryz.prog 94 := ⟨by kernel_rfl⟩
instance : HasSize Tryz.prog 94 1 := ⟨by kernel_rfl⟩
instance : IsSlice Tryz.prog 94 82 := ⟨by kernel_rfl⟩
instance : IsSlice Tryz.prog 49 3 := ⟨by kernel_rfl⟩
instance : IsOne Tryz.prog 137 := ⟨by kernel_rfl⟩
instance : HasSize Tryz.prog 137 1 := ⟨by kernel_rfl⟩
instance : IsSlice Tryz.prog 137 72 := ⟨by kernel_rfl⟩
instance : IsSlice Tryz.prog 23 5 := ⟨by kernel_rfl⟩
instance : IsOne Tryz.prog 4 := ⟨by kernel_rfl⟩
instance : IsAgg Tryz.prog 158 3 := ⟨by kernel_rfl⟩
instance : HasSize Tryz.prog 158 3 := ⟨by kernel_rfl⟩
instance : IsElem Tryz.prog 158 3 24 := ⟨by kernel_rfl, by decide⟩
instance : HasZero Tryz.prog 158 (.agg #[.int .i64 0, .int .i64 0, .int .i64 0]) := ⟨by kernel_rfl⟩
instance : IsAgg Tryz.prog 34 12 := ⟨by kernel_rfl⟩
instance : IsElem Tryz.prog 34 12 128 := ⟨by kernel_rfl, by decide⟩
instance : IsAgg Tryz.prog 29 2 := ⟨by kernel_rfl⟩
instance : IsAgg Tryz.prog 27 5 := ⟨by kernel_rfl⟩
instance : HasSize Tryz.prog 27 5 := ⟨by kernel_rfl⟩
instance : HasZero Tryz.prog 27 (.agg #[.int .i64 0, .string ⟨#[]⟩, .string ⟨#[]⟩, .int .i64 0, .int .i64 0]) := ⟨by kernel_rfl⟩
instance : IsAgg Tryz.prog 187 5 := ⟨by kernel_rfl⟩
instance : HasSize Tryz.prog 187 5 := ⟨by kernel_rfl⟩
instance : IsElem Tryz.prog 187 5 48 := ⟨by kernel_rfl, by decide⟩
instance : HasZero Tryz.prog 187 (.agg #[.string ⟨#[]⟩, .int .i64 0, .int .i64 0, .int .i64 0, .int .i64 0]) := ⟨by kernel_rfl⟩
instance : IsAgg Tryz.prog 160 5 := ⟨by kernel_rfl⟩
instance : HasSize Tryz.prog 160 5 := ⟨by kernel_rfl⟩
instance : IsElem Tryz.prog 160 5 40 := ⟨by kernel_rfl, by decide⟩
instance : HasZero Tryz.prog 160 (.agg #[.int .i64 0, .int .i64 0, .int .i64 0, .int .i64 0, .int .i64 0]) := ⟨by kernel_rfl⟩
instance : IsAgg Tryz.prog 32 3 := ⟨by kernel_rfl⟩
instance : HasSize Tryz.prog 32 3 := ⟨by kernel_rfl⟩
instance : HasZero Tryz.prog 32 (.agg #[.int .i64 0, .int .i64 0, .slice none 0 0]) := ⟨by kernel_rfl⟩
instance : IsAgg Tryz.prog 195 2 := ⟨by kernel_rfl⟩
instance : HasSize Tryz.prog 195 2 := ⟨by kernel_rfl⟩
instance : HasZero Tryz.prog 195 (.agg #[.int .i64 0, .int .i64 0]) := ⟨by kernel_rfl⟩
instance : IsAgg Tryz.prog 86 19 := ⟨by kernel_rfl⟩
instance : HasSize Tryz.prog 86 19 := ⟨by kernel_rfl⟩
instance : IsElem Tryz.prog 86 19 200 := ⟨by kernel_rfl, by decide⟩
instance : HasZero Tryz.prog 86 (.agg #[.int .u8 0, .string ⟨#[]⟩, .int .i64 0, .string ⟨#[]⟩, .int .i64 0, .int .i64 0, .int .i64 0, .int .i64 0, .int .i64 0, .string ⟨#[]⟩, .string ⟨#[]⟩, .int .i64 0, .int .i64 0, .int .i64 0, .int .i64 0, .int .i64 0, .int .i64 0, .int .i64 0, .slice none 0 0]) := ⟨by kernel_rfl⟩
instance : IsAgg Tryz.prog 124 12 := ⟨by kernel_rfl⟩
instance : HasSize Tryz.prog 124 12 := ⟨by kernel_rfl⟩
instance : IsElem Tryz.prog 124 12 112 := ⟨by kernel_rfl, by decide⟩
instance : HasZero Tryz.prog 124 (.agg #[.int .i64 0, .string ⟨#[]⟩, .string ⟨#[]⟩, .int .i64 0, .int .i64 0, .int .i64 0, .int .i64 0, .int .i64 0, .int .i64 0, .int .i64 0, .int .i64 0, .bool false]) := ⟨by kernel_rfl⟩
instance : IsAgg Tryz.prog 150 9 := ⟨by kernel_rfl⟩
instance : HasSize Tryz.prog 150 9 := ⟨by kernel_rfl⟩
instance : HasZero Tryz.prog 150 (.agg #[.int .i64 0, .int .i64 0, .slice none 0 0, .int .i64 0, .int .i64 0, .slice none 0 0, .int .i64 0, .int .i64 0, .slice none 0 0]) := ⟨by kernel_rfl⟩
instance : IsAgg Tryz.prog 178 3 := ⟨by kernel_rfl⟩
instance : HasSize Tryz.prog 178 3 := ⟨by kernel_rfl⟩
instance : IsElem Tryz.prog 178 3 24 := ⟨by kernel_rfl, by decide⟩
instance : HasZero Tryz.prog 178 (.agg #[.int .i64 0, .int .i64 0, .int .i64 0]) := ⟨by kernel_rfl⟩
instance : IsAgg Tryz.prog 82 4 := ⟨by kernel_rfl⟩
instance : HasSize Tryz.prog 82 4 := ⟨by kernel_rfl⟩
instance : IsElem Tryz.prog 82 4 40 := ⟨by kernel_rfl, by decide⟩
instance : HasZero Tryz.prog 82 (.agg #[.string ⟨#[]⟩, .int .i64 0, .int .i64 0, .int .i64 0]) := ⟨by kernel_rfl⟩
instance : IsAgg Tryz.prog 141 10 := ⟨by kernel_rfl⟩
instance : HasSize Tryz.prog 141 10 := ⟨by kernel_rfl⟩
instance : HasZero Tryz.prog 141 (.agg #[.int .i64 0, .int .i64 0, .slice none 0 0, .int .i64 0, .int .i64 0, .slice none 0 0, .int .i64 0, .int .i64 0, .slice none 0 0, .map none]) := ⟨by kernel_rfl⟩
instance : IsAgg Tryz.prog 72 12 := ⟨by kernel_rfl⟩
instance : HasSize Tryz.prog 72 12 := ⟨by kernel_rfl⟩
instance : IsElem Tryz.prog 72 12 112 := ⟨by kernel_rfl, by decide⟩
instance : HasZero Tryz.prog 72 (.agg #[.int .i64 0, .string ⟨#[]⟩, .string ⟨#[]⟩, .int .i64 0, .int .i64 0, .int .i64 0, .int .i64 0, .int .i64 0, .int .i64 0, .int .i64 0, .int .i64 0, .bool false]) := ⟨by kernel_rfl⟩
instance : IsOne Tryz.prog 3 := ⟨by kernel_rfl⟩
instance : HasSize Tryz.prog 3 1 := ⟨by kernel_rfl⟩
instance : IsElem Tryz.prog 3 1 8 := ⟨by kernel_rfl, by decide⟩
instance : IsOne Tryz.prog 2 := ⟨by kernel_rfl⟩
instance : HasSize Tryz.prog 2 1 := ⟨by kernel_rfl⟩
instance : HasZero Tryz.prog 2 (.int .i64 0) := ⟨by kernel_rfl⟩
instance : IsOne Tryz.prog 139 := ⟨by kernel_rfl⟩
instance : IsOne Tryz.prog 191 := ⟨by kernel_rfl⟩
instance : IsOne Tryz.prog 190 := ⟨by kernel_rfl⟩
instance : IsOne Tryz.prog 242 := ⟨by kernel_rfl⟩
instance : IsOne Tryz.prog 9 := ⟨by kernel_rfl⟩
instance : HasSize Tryz.prog 9 1 := ⟨by kernel_rfl⟩
instance : IsOne Tryz.prog 5 := ⟨by kernel_rfl⟩
instance : IsElem Tryz.prog 5 1 1 := ⟨by kernel_rfl, by decide⟩
end Go.Proofs.YtibabfedpdoofaaGreatDoor
namespace Go.Own
open Go.RowKit
section
variable {P : Program} {ops : Array Oper} {rest : List Oper} {o : Oper} {a : Act} {W w : World} {Q : Exit → Act → World → Prop} {L L' : List Ent}
/-- What a row reads as. -/
theorem Own.rowAt {t k n c i : Nat} {q : Addr} {A : List (List Value)} {l : List Value} (h : Own W w L) (hat : At (row t k (.slice (some q) n c) A) (row t k (.slice (some q) n c) A) L L') (hA : ∀ l ∈ A, l.length = k) (hl : A[i]? = some l) :
    ∀ j u, l[j]? = some u → w.cell? ((q.add (i * k)).add j) = some u := by
  have hF := isL_of_owns hA (h.has _ hat.mem)
  intro j u hu
  obtain ⟨hi, rfl⟩ := List.getElem?_eq_some_iff.1 hl
  cases hF with
  | none sp sc hn => simp at hi
  | some a' cap L'' hlen hcap h0 hR => exact hR.c i hi j u hu
/-- The form of a row's slice. -/
theorem Own.rowForm {t k : Nat} {v : Value} {A : List (List Value)} (h : Own W w L) (hat : At (row t k v A) (row t k v A) L L') : (∃ p c, v = .slice p A.length c) ∧ (0 < A.length → ∃ q c, v = .slice (some q) A.length c) := by
  rcases (h.has _ hat.mem).2 with ⟨rfl, h0⟩ | ⟨g, cap, cur, rfl, _⟩
  · exact ⟨⟨_, _, by rw [h0]⟩, fun hh => by omega⟩
  · exact ⟨⟨_, _, rfl⟩, fun _ => ⟨_, _, rfl⟩⟩
/-- A block that a slice literal has laid is a row. -/
theorem Own.litRow {t k n b : Nat} {cs : Array Value} {A : List (List Value)} (h : Own W w (box b (.cells cs t) :: L)) (hA : ∀ l ∈ A, l.length = k) (hn : A.length = n) (hc : A.flatten.toArray = cs) (hm : n ≤ maxLen) : Own W w (row t k (.slice (some ⟨b, 0, none⟩) n n) A :: L) :=
  h.as (.head _) (row_ok _ _ _ _) (fun hF => by
    refine ⟨flatL_len hA, .inr ⟨b, n, cs, by rw [hn], Nat.zero_le _, hF, by omega, hm, ?_, ?_⟩⟩
    · rw [← hc]; simp [flatL_len hA, hn]
    · rw [← hc]; rw [List.take_of_length_le]; simp [flatL_len hA]) (fun _ hb => hb)
theorem run_load_at {p : Addr} {l : List Value} {t : TypeId} (x : Operand) (ho : o.op = .load t x) (hx : a.eval x = .pointer (some p)) (hl : ∀ j v, l[j]? = some v → w.cell? (p.add j) = some v) (ht : aggSize P t = some l.length) :
    (execOp a.eval o).run P w = .ok (.value (.agg l.toArray)) w := by
  have hc : (loadCells p l.length).run P w = .ok l.toArray w := run_loadCells_list (P := P) w p l hl
  obtain ⟨h1, h2⟩ := run_isAgg_yes ht w
  simp [execOp, ho, hx, Instr.loadAt, Instr.sureAddr, loadVar, h1, h2, hc]
theorem run_load_at1 {p : Addr} {v : Value} {t : TypeId} (x : Operand) (ho : o.op = .load t x) (hx : a.eval x = .pointer (some p)) (hl : w.cell? p = some v) (ht : oneCellT P t = true) :
    (execOp a.eval o).run P w = .ok (.value v) w := by
  obtain ⟨h1, h2⟩ := run_isAgg_no ht w
  simp [execOp, ho, hx, Instr.loadAt, Instr.sureAddr, loadVar, h1, hl]
end
section
variable {P : Program} {ops : Array Oper} {rest : List Oper} {o : Oper} {a : Act} {W : World} {F : World → World} {Q : Act → Prop} {L L' : List Ent}
end
end Go.Own
namespace Go.Own
open Go.RowKit
theorem fold_set : ∀ (l : List Value) (i : Nat) (z : List Value), i + l.length = z.length →
    (l.zipIdx i).foldl (fun (cs : Array Value) (p : Value × Nat) => cs.setIfInBounds p.2 p.1) z.toArray = (z.take i ++ l).toArray
  | [], i, z, h => by simp at h; simp [h]
  | x :: l, i, z, h => by
    simp only [List.length_cons] at h
    rw [List.zipIdx_cons, List.foldl_cons]
    have e : (z.toArray.setIfInBounds i x) = (z.set i x).toArray := by simp
    rw [e, fold_set l (i + 1) (z.set i x) (by simp; omega)]
    congr 1
    rw [List.take_succ_eq_append_getElem (by simp; omega), List.take_set_of_le (Nat.le_refl _)]
    simp
theorem fill_one (place : Nat → Option (Nat × Nat)) (z l : List Value) (v : Value) (hp : place 0 = some (0, l.length)) (hv : v.cells = l.toArray) (hz : z.length = l.length) : Instr.fill place z.toArray [(0, v)] = some l.toArray := by
  unfold Instr.fill
  simp only [hp, hv]
  have h1 : ¬ (l.toArray.size ≠ l.length || decide (0 + l.toArray.size > z.toArray.size)) = true := by simp; omega
  rw [if_neg (by simpa using h1)]
  have := fold_set l 0 z (by omega)
  simp only [List.take_zero, List.nil_append] at this
  simp only [Instr.fill, Nat.zero_add]
  rw [← Array.foldl_toList, Array.toList_zipIdx]
  exact congrArg some this
section
variable {P : Program} {ops : Array Oper} {rest : List Oper} {o : Oper} {a : Act} {W w : World} {Q : Exit → Act → World → Prop} {L : List Ent}
/-- A slice literal of one element. -/
theorem run_lit1 {t e k by' : Nat} {x : Operand} {l : List Value} {v : Value} (ho : o.op = .buildSlice t 1 #[(0, x)]) (ht : IsSlice P t e) (hsz : IsElem P e k by') (hx : a.eval x = v) (hv : v.cells = l.toArray) (hl : l.length = k) (hk : k ≤ 1000) (w : World) :
    (execOp a.eval o).run P w = .ok (.value (.slice (some ⟨w.heap.size, 0, none⟩) 1 1)) (w.alloc (.cells l.toArray e)) := by
  have h1 := hsz.out
  have hpos := hsz.pos
  cases hi : P.info? e with
  | none => simp [hi] at h1
  | some i =>
    cases hzz : i.zero with
    | none => simp [hi, hzz] at h1
    | some zv =>
      simp only [hi, hzz, Option.bind_some, Option.map_some, Option.some.injEq, Prod.mk.injEq] at h1
      obtain ⟨h2, h3, _⟩ := h1
      have hlt : ¬ (16777216 < 1 * k) := by omega
      have h0 : ¬ (1 * k = 0) := by omega
      have hf : Instr.fill (fun i => some (i * k, k)) (Array.map (fun x => zv.cells[x % zv.cells.size]!) (Array.range (1 * k))) [(0, v)] = some l.toArray := by
        have := fill_one (fun i => some (i * k, k)) (Array.map (fun x => zv.cells[x % zv.cells.size]!) (Array.range (1 * k))).toList l v (by simp [hl]) hv (by simp [hl])
        rwa [Array.toArray_toList] at this
      unfold execOp
      simp only [ho, Instr.buildSlice]
      simp only [Nat.one_mul] at hf hlt h0
      simp [underlying, ht.out, sizeOf, typeInfo, hi, h3, h0, zeroValue, hzz, hlt, newRow, hx, hf]
theorem wpList_lit1 {t e k by' : Nat} {x : Operand} {l : List Value} (hO : Own W w L) (ho : o.op = .buildSlice t 1 #[(0, x)]) (ht : IsSlice P t e) (hsz : IsElem P e k by') (hx : a.eval x = .agg l.toArray) (hl : l.length = k) (hk : k ≤ 1000)
    (hw : Region.wanted o (yielded ops a.tmps) = true) (h : ∀ b w', Own W w' (box b (.cells l.toArray e) :: L) → wpList P ops Q rest (a.put o.dst (.slice (some ⟨b, 0, none⟩) 1 1)) w') : wpList P ops Q (o :: rest) a w :=
  wpList_value hw (run_lit1 ho ht hsz hx rfl hl hk w) (h _ _ (hO.alloc _))
/-- The same, of one cell. -/
theorem wpList_lit1c {t e by' : Nat} {x : Operand} {v : Value} (hO : Own W w L) (ho : o.op = .buildSlice t 1 #[(0, x)]) (ht : IsSlice P t e) (hsz : IsElem P e 1 by') (hx : a.eval x = v) (hv : v.oneCell' = true)
    (hw : Region.wanted o (yielded ops a.tmps) = true) (h : ∀ b w', Own W w' (box b (.cells [v].toArray e) :: L) → wpList P ops Q rest (a.put o.dst (.slice (some ⟨b, 0, none⟩) 1 1)) w') : wpList P ops Q (o :: rest) a w :=
  wpList_value hw (run_lit1 (l := [v]) ho ht hsz hx (by cases v <;> first | rfl | cases hv) rfl (by omega) w) (h _ _ (hO.alloc _))
end
end Go.Own
namespace Go.Own
open Go.RowKit
section
variable {P : Program} {ops : Array Oper} {rest : List Oper} {o : Oper} {a : Act} {W w : World} {F : World → World} {Q : Act → Prop} {L : List Ent}
/-- A load from wherever what is known of the pieces tells the cells. -/
theorem wpQuiet_loadAt {p : Addr} {l : List Value} {t m : Nat} {x : Operand} (hF : Fam W L F) (ho : o.op = .load t x) (hx : a.eval x = .pointer (some p)) (hc : ∀ w', Own W w' L → ∀ j u, l[j]? = some u → w'.cell? (p.add j) = some u) (ht : IsAgg P t m) (hm : l.length = m)
    (hw : Region.wanted o (yielded ops a.tmps) = true) (h : wpQuiet P ops (fun w' => ∃ x, w' = F x) Q rest (a.put o.dst (.agg l.toArray))) : wpQuiet P ops (fun w' => ∃ x, w' = F x) Q (o :: rest) a :=
  wpQuiet_value (v := .agg l.toArray) hw (fun w' ⟨y, hy⟩ => run_load_at x ho hx (hc w' (hy ▸ hF.own y)) (by rw [ht.out, hm])) h
theorem wpQuiet_loadAt1 {p : Addr} {v : Value} {t : Nat} {x : Operand} (hF : Fam W L F) (ho : o.op = .load t x) (hx : a.eval x = .pointer (some p)) (hc : ∀ w', Own W w' L → w'.cell? p = some v) (ht : IsOne P t)
    (hw : Region.wanted o (yielded ops a.tmps) = true) (h : wpQuiet P ops (fun w' => ∃ x, w' = F x) Q rest (a.put o.dst v)) : wpQuiet P ops (fun w' => ∃ x, w' = F x) Q (o :: rest) a :=
  wpQuiet_value (v := v) hw (fun w' ⟨y, hy⟩ => run_load_at1 x ho hx (hc w' (hy ▸ hF.own y)) ht.out) h
theorem wpList_loadAt {Q : Exit → Act → World → Prop} {p : Addr} {l : List Value} {t m : Nat} {x : Operand} (hO : Own W w L) (ho : o.op = .load t x) (hx : a.eval x = .pointer (some p)) (hc : ∀ w', Own W w' L → ∀ j u, l[j]? = some u → w'.cell? (p.add j) = some u) (ht : IsAgg P t m) (hm : l.length = m)
    (hw : Region.wanted o (yielded ops a.tmps) = true) (h : wpList P ops Q rest (a.put o.dst (.agg l.toArray)) w) : wpList P ops Q (o :: rest) a w :=
  wpList_value hw (run_load_at x ho hx (hc w hO) (by rw [ht.out, hm])) h
theorem wpList_loadAt1 {Q : Exit → Act → World → Prop} {p : Addr} {v : Value} {t : Nat} {x : Operand} (hO : Own W w L) (ho : o.op = .load t x) (hx : a.eval x = .pointer (some p)) (hc : ∀ w', Own W w' L → w'.cell? p = some v) (ht : IsOne P t)
    (hw : Region.wanted o (yielded ops a.tmps) = true) (h : wpList P ops Q rest (a.put o.dst v) w) : wpList P ops Q (o :: rest) a w :=
  wpList_value hw (run_load_at1 x ho hx (hc w hO) ht.out) h
end
theorem add0 (a : Addr) : a.add 0 = a := by unfold Addr.add; rw [if_pos rfl]
theorem add0' (a : Addr) (k : Nat) : a.add (0 * k) = a := by rw [Nat.zero_mul, add0]
end Go.Own
namespace Go.Own
open Go.RowKit

/-- The pieces that stay as they are while the region runs. -/
def Held (L : List Ent) (w : World) : Prop := ∀ e ∈ L, e.F w
section
variable {P : Program} {ops : Array Oper} {Q : Exit → Act → World → Prop} {S : World → Prop}
/-- What is asked behind a list of operations: S, and R. -/
def thenQ (Q : Exit → Act → World → Prop) (S : World → Prop) (R : Act → World → Prop) : Exit → Act → World → Prop
  | .normal, a, w => S w ∧ R a w
  | e, a, w => Q e a w
/-- The walk: (number, is it quiet?). -/
def wpHeld (P : Program) (ops : Array Oper) (Q : Exit → Act → World → Prop) (S : World → Prop) : List (Nat × Bool) → Act → World → Prop
  | [], a, w => Q .normal a w
  | (i, true) :: rest, a, w => ∃ v, YieldsIf P ops S (ops.getD i default) v a ∧ wpHeld P ops Q S rest (a.put (ops.getD i default).dst v) w
  | (i, false) :: rest, a, w => wpList P ops (thenQ Q S (wpHeld P ops Q S rest)) [ops.getD i default] a w
/-- May it be walked so? -/
def schedB (ops : Array Oper) : List (Nat × Bool) → Array Bool → Bool
  | [], listed => (Region.ready .any ops listed).isEmpty
  | (i, true) :: rest, listed => decide (i < ops.size) && Region.free .any ops listed i && (Region.ready .any ops listed).contains i && schedB ops rest (listed.setIfInBounds i true)
  | (i, false) :: rest, listed => decide (i < ops.size) && (Region.ready .any ops listed == [i]) && schedB ops rest (listed.setIfInBounds i true)

theorem wpOp_of_list {i : Nat} {K : Act → World → Prop} {a : Act} {w : World} (hi : i < ops.size) (h : wpList P ops (thenQ Q S K) [ops.getD i default] a w) :
    wpOp P ops Q i (fun a' w' => S w' ∧ K a' w') a w := by
  have e : ops[i]? = some (ops.getD i default) := by simp [hi]
  generalize ops.getD i default = o at *
  unfold wpOp
  simp only [e]
  unfold wpList at h
  by_cases hw : Region.wanted o (yielded ops a.tmps) = true
  · rw [if_pos hw] at h ⊢
    rcases h with h | ⟨h1, a', w', h2⟩
    · left
      unfold Oper.wp at *
      generalize (execOp a.eval o).run P w = r at *
      cases r with
      | ok n w' =>
        cases n <;> simp only [Oper.upon] at h ⊢ <;> first
          | exact h
          | exact Calls.mono h (fun e w'' he => by cases e <;> first | exact he | (obtain ⟨a', w', hq⟩ := he; exact ⟨a', w', hq⟩))
          | exact Rows.mono h (fun _ _ he => he)
      | halt x w' => cases x <;> simp only [Oper.upon] at h ⊢ <;> exact h
    · exact .inr ⟨h1, a', w', h2⟩
  · rw [if_neg hw] at h ⊢
    exact h
theorem anyH_of_sched (hs : Region.noSelect ops = true) (hQ : ∀ c (d : Option Tmp) v a w, Q (.panic c) (Act.put a d v) w → Q (.panic c) a w) : ∀ (π : List (Nat × Bool)) (listed : Array Bool) (a : Act) (w : World), schedB ops π listed = true → S w → wpHeld P ops Q S π a w →
    wpAnyH P .any ops Q S π.length listed a w
  | [], listed, a, w, hB, _, h => wpAnyH_done (by simpa [schedB] using hB) h 0
  | (i, true) :: rest, listed, a, w, hB, hS, h => by
    simp only [schedB, Bool.and_eq_true, decide_eq_true_eq] at hB
    obtain ⟨⟨⟨h1, h2⟩, h3⟩, h4⟩ := hB
    obtain ⟨v, hy, hr⟩ := h
    exact wpAnyH_take (by simp [h1]) hs h2 h3 (fun c a w => hQ c _ _ a w) hy hS (anyH_of_sched hs hQ rest _ _ w h4 hS hr)
  | (i, false) :: rest, listed, a, w, hB, hS, h => by
    simp only [schedB, Bool.and_eq_true, decide_eq_true_eq, beq_iff_eq] at hB
    obtain ⟨⟨h1, h2⟩, h3⟩ := hB
    refine wpAnyH_all h2 (by simp) (fun j hj => ?_)
    obtain rfl := List.mem_singleton.1 hj
    have h5 := wpOp_of_list (K := wpHeld P ops Q S rest) h1 h
    exact wpOp_mono (fun a' w' h6 => ⟨h6.1, anyH_of_sched hs hQ rest _ a' w' h3 h6.1 h6.2⟩) h5
end
section
variable {P : Program}
end
end Go.Own
namespace Go.Own
open Go.RowKit

section
variable {P : Program} {ops : Array Oper} {Q : Exit → Act → World → Prop} {md : Region.Mode} {S : Nat → World → World → Prop} {T : World → Prop}
/-- Does j wait for i, by others too? -/
def waitsT (md : Region.Mode) (ops : Array Oper) (i : Nat) : Nat → Nat → Bool
  | 0, _ => false
  | n + 1, j => match ops[j]? with
    | some o => o.after.any fun e => Region.binds md e && (e.on == i || waitsT md ops i n e.on)
    | none => false
/-- What has come up, has come up behind what it waits for. -/
def ClosedL (md : Region.Mode) (ops : Array Oper) (listed : Array Bool) : Prop := ∀ j o, listed.getD j false = true → ops[j]? = some o → ∀ e ∈ o.after, Region.binds md e = true → listed.getD e.on false = true
theorem ClosedL.waits {listed : Array Bool} (hc : ClosedL md ops listed) {i : Nat} (hi : listed.getD i false = false) : ∀ n j, (∀ o, ops[j]? = some o → ∀ e ∈ o.after, Region.binds md e = true → listed.getD e.on false = true) → waitsT md ops i n j = false
  | 0, _, _ => rfl
  | n + 1, j, h => by
    unfold waitsT
    split
    · rename_i o ho
      rw [Array.any_eq_false]
      intro k hk
      simp only [Bool.and_eq_true, Bool.or_eq_true, beq_iff_eq]
      rintro ⟨hb, h1⟩
      have h2 := h o ho _ (Array.getElem_mem hk) hb
      rcases h1 with h1 | h1
      · rw [h1, hi] at h2; cases h2
      · rw [hc.waits hi n _ (fun o' ho' => hc _ o' h2 ho')] at h1; cases h1
    · rfl
theorem ClosedL.set {listed : Array Bool} (hc : ClosedL md ops listed) {i : Nat} (hi : i ∈ Region.ready md ops listed) : ClosedL md ops (listed.setIfInBounds i true) := by
  intro j o hj ho e he hb
  refine getD_set_true ?_
  by_cases hji : i = j
  · subst hji
    obtain ⟨_, o', ho', h⟩ := mem_ready.1 hi
    rw [ho] at ho'
    cases ho'
    exact h e he hb
  · rw [getD_set_ne false hji] at hj
    exact hc j o hj ho e he hb
/-- Whatever comes up: behind number i stands S i, of the worlds before and behind it. -/
def wpEach (P : Program) (md : Region.Mode) (ops : Array Oper) (Q : Exit → Act → World → Prop) (S : Nat → World → World → Prop) : Nat → Array Bool → Act → World → Prop
  | 0, l, a, w => Region.ready md ops l = [] ∧ Q .normal a w
  | n + 1, l, a, w => (Region.ready md ops l = [] → Q .normal a w) ∧ ∀ i ∈ Region.ready md ops l, wpOp P ops Q i (fun a' w' => S i w w' ∧ wpEach P md ops Q S n (l.setIfInBounds i true) a' w') a w
theorem wpAny_of_each : ∀ (n : Nat) (l : Array Bool) (a : Act) (w : World), wpEach P md ops Q S n l a w → wpAny P md ops Q n l a w
  | 0, _, _, _, h => h
  | n + 1, _, _, _, h => ⟨h.1, fun i hi => wpOp_mono (fun a' w' h' => wpAny_of_each n _ a' w' h'.2) (h.2 i hi)⟩
theorem wpEach_take {i m : Nat} {oi : Oper} {v : Value} (hi : ops[i]? = some oi) (hs : Region.noSelect ops = true) (hQ : ∀ c a w, Q (.panic c) (a.put oi.dst v) w → Q (.panic c) a w) (hSi : ∀ w, S i w w) : ∀ (n : Nat) (l : Array Bool) (a : Act) (w : World),
    (∀ j oj, ops[j]? = some oj → j ≠ i → l.getD j true = false → (∀ e ∈ oj.after, Region.binds md e = true → e.on ≠ i) → oi.apart ops oj = true) →
    (∀ j, j < ops.size → j ≠ i → l.getD j true = false → waitsT md ops i m j = false → ∀ w w', S j w w' → T w → T w') → ClosedL md ops l → i ∈ Region.ready md ops l → YieldsIf P ops T oi v a → T w →
    wpEach P md ops Q S n (l.setIfInBounds i true) (a.put oi.dst v) w → wpEach P md ops Q S (n + 1) l a w := by
  intro n
  induction n with
  | zero =>
    intro l a w _ _ _ hr hy hT H
    refine ⟨fun h => (by rw [h] at hr; cases hr), fun j hj => ?_⟩
    by_cases hji : j = i
    · subst hji; exact hy.wpOp hi hT ⟨hSi _, H⟩
    · have h0 := ready_mono hj hji
      rw [H.1] at h0
      cases h0
  | succ n ih =>
    intro l a w hfree hB hc hr hy hT H
    refine ⟨fun h => (by rw [h] at hr; cases hr), fun j hj => ?_⟩
    by_cases hji : j = i
    · subst hji; exact hy.wpOp hi hT ⟨hSi _, H⟩
    · have h1 := H.2 j (ready_mono hj hji)
      obtain ⟨hjun, oj, hoj, hall⟩ := mem_ready.1 hj
      have hjs : j < ops.size := (Array.getElem?_eq_some_iff.1 hoj).1
      have his : i < ops.size := (Array.getElem?_eq_some_iff.1 hi).1
      have hif : l.getD i false = false := by
        have h0 := (mem_ready.1 hr).1
        rcases Nat.lt_or_ge i l.size with h' | h'
        · simp [h'] at h0 ⊢; exact h0
        · simp [Array.getElem?_eq_none h']
      have hnot : ∀ e ∈ oj.after, Region.binds md e = true → e.on ≠ i := fun e he hb heq => by
        have h2 := hall e he hb
        rw [heq, hif] at h2
        cases h2
      have hST := hB j hjs hji hjun (hc.waits hif m j fun o ho => by rw [hoj] at ho; cases ho; exact hall)
      have h2 := wpOp_putIf hoj (hfree j oj hoj hji hjun hnot) (fun cs b => Region.noSelect_spec hs i oi cs b hi) (fun cs b => Region.noSelect_spec hs j oj cs b hoj) hQ hy h1
      have hstill : ∀ k, (l.setIfInBounds j true).getD k true = false → l.getD k true = false := fun k hk => by
        by_cases hjk : j = k
        · subst hjk; exact hjun
        · rw [getD_set_ne true hjk] at hk; exact hk
      refine wpOp_mono (fun a' w' h3 => ⟨h3.2.1, ih (l.setIfInBounds j true) a' w' (fun k ok hk hki hun hno => hfree k ok hk hki (hstill k hun) hno) (fun k hk hki hun => hB k hk hki (hstill k hun)) (hc.set hj) (ready_mono hr (Ne.symm hji)) h3.1 (hST _ _ h3.2.1 hT) ?_⟩) h2
      rw [Array.setIfInBounds_comm _ _ hji]
      exact h3.2.2

/-- Does it read memory? -/
def readsB (ops : Array Oper) (i : Nat) : Bool := match (ops.getD i default).op with
  | .load _ _ => true
  | .lookup _ _ _ _ => true
  | _ => false
/-- What a quiet one asks of the world: nothing, if it reads no memory. -/
def askS (ops : Array Oper) (T : World → Prop) (i : Nat) (w : World) : Prop := readsB ops i = true → T w
/-- Must the world still bear T behind number j? -/
def keepB (ops : Array Oper) (π : List (Nat × Bool)) (j : Nat) : Bool := π.any fun p => p.2 && readsB ops p.1 && (p.1 == j || !waitsT .any ops p.1 ops.size j)
def keepS (ops : Array Oper) (π : List (Nat × Bool)) (T : World → Prop) (j : Nat) (w : World) : Prop := keepB ops π j = true → T w
/-- Behind a quiet one the world is as it was; behind a loud one T stands, where it is still wanted. -/
def keepW (ops : Array Oper) (π : List (Nat × Bool)) (T : World → Prop) (j : Nat) (w w' : World) : Prop := (π.contains (j, true) = true → w' = w) ∧ (π.contains (j, true) = false → keepS ops π T j w')
/-- The walk: (number, is it quiet?); behind a loud one T is shown where it is still wanted. -/
def wpSched (P : Program) (ops : Array Oper) (Q : Exit → Act → World → Prop) (T : World → Prop) (π : List (Nat × Bool)) : List (Nat × Bool) → Act → World → Prop
  | [], a, w => Q .normal a w
  | (i, true) :: rest, a, w => ∃ v, YieldsIf P ops (askS ops T i) (ops.getD i default) v a ∧ wpSched P ops Q T π rest (a.put (ops.getD i default).dst v) w
  | (i, false) :: rest, a, w => wpList P ops (thenQ Q (keepS ops π T i) (wpSched P ops Q T π rest)) [ops.getD i default] a w
def schedC (ops : Array Oper) (π : List (Nat × Bool)) : List (Nat × Bool) → Array Bool → Bool
  | [], l => (Region.ready .any ops l).isEmpty
  | (i, true) :: rest, l => decide (i < ops.size) && Region.free .any ops l i && (Region.ready .any ops l).contains i && π.contains (i, true) && (!readsB ops i || ((List.range ops.size).all fun j => j == i || l.getD j true || waitsT .any ops i ops.size j || keepB ops π j || π.contains (j, true))) && schedC ops π rest (l.setIfInBounds i true)
  | (i, false) :: rest, l => decide (i < ops.size) && (Region.ready .any ops l == [i]) && !(π.contains (i, true)) && (keepB ops π i || !(rest.any fun p => p.2 && readsB ops p.1)) && schedC ops π rest (l.setIfInBounds i true)
theorem each_of_sched (hs : Region.noSelect ops = true) (hQ : ∀ c (d : Option Tmp) v a w, Q (.panic c) (Act.put a d v) w → Q (.panic c) a w) (π : List (Nat × Bool)) : ∀ (ρ : List (Nat × Bool)) (l : Array Bool) (a : Act) (w : World), schedC ops π ρ l = true → ClosedL .any ops l → ((ρ.any fun p => p.2 && readsB ops p.1) = true → T w) → wpSched P ops Q T π ρ a w →
    wpEach P .any ops Q (keepW ops π T) ρ.length l a w
  | [], l, a, w, hB, _, _, h => ⟨by simpa [schedC] using hB, h⟩
  | (i, true) :: rest, l, a, w, hB, hc, hT, h => by
    simp only [schedC, Bool.and_eq_true, decide_eq_true_eq] at hB
    obtain ⟨⟨⟨⟨⟨h1, h2⟩, h3⟩, h5⟩, h6⟩, h4⟩ := hB
    obtain ⟨v, hy, hr⟩ := h
    have hTw : askS ops T i w := fun hb => hT (by simp [hb])
    have e : ops[i]? = some (ops.getD i default) := by simp [h1]
    have hrd : i ∈ Region.ready .any ops l := by simpa using h3
    refine wpEach_take (m := ops.size) (T := askS ops T i) e hs (fun c a w => hQ c _ _ a w) (fun w => ⟨fun _ => rfl, fun hf => (by rw [h5] at hf; cases hf)⟩) _ _ _ _ (Region.free_spec e h2) (fun j hj hji hun hwt w w' hS hT hb => ?_) hc hrd hy hTw (each_of_sched hs hQ π rest _ _ w h4 (hc.set hrd) (fun hb => hT (by rw [List.any_cons, hb, Bool.or_true])) hr)
    rw [hb, Bool.not_true, Bool.false_or, List.all_eq_true] at h6
    have h7 := h6 j (List.mem_range.2 hj)
    simp only [Bool.or_eq_true, beq_iff_eq] at h7
    cases hq : π.contains (j, true)
    · rcases h7 with (((h | h) | h) | h) | h
      · exact absurd h hji
      · rw [hun] at h; cases h
      · rw [hwt] at h; cases h
      · exact hS.2 hq h
      · rw [hq] at h; cases h
    · rw [hS.1 hq]; exact hT hb
  | (i, false) :: rest, l, a, w, hB, hc, hT, h => by
    simp only [schedC, Bool.and_eq_true, decide_eq_true_eq, beq_iff_eq, Bool.or_eq_true, Bool.not_eq_true'] at hB
    obtain ⟨⟨⟨⟨h1, h2⟩, h0⟩, h5⟩, h3⟩ := hB
    refine ⟨fun h0 => (by rw [h2] at h0; cases h0), fun j hj => ?_⟩
    have hj' := hj
    rw [h2] at hj'
    obtain rfl := List.mem_singleton.1 hj'
    refine wpOp_mono (fun a' w' h6 => ⟨⟨fun ht => (by rw [h0] at ht; cases ht), fun _ => h6.1⟩, each_of_sched hs hQ π rest _ a' w' h3 (hc.set hj) (fun hq => ?_) h6.2⟩) (wpOp_of_list (K := wpSched P ops Q T π rest) h1 h)
    rcases h5 with h5 | h5
    · exact h6.1 h5
    · rw [h5] at hq; cases hq
end
section
variable {P : Program} {Q : Exit → Act → World → Prop} {T : World → Prop} {π rest : List (Nat × Bool)} {i : Nat} {l : List Oper} {a : Act} {w : World} {o : Oper}
theorem getD_of {l : List Oper} {i : Nat} {o : Oper} (h : l[i]? = some o) : l.toArray.getD i default = o := by simp [h]
theorem wpSched_end {Q : Exit → Act → World → Prop} (h : Q .normal a w) : wpSched P l.toArray (NoPanic Q) T π [] a w := h
theorem readsB_of {t : TypeId} {x : Operand} (ho : l[i]? = some o) (hop : o.op = .load t x) : readsB l.toArray i = true := by
  unfold readsB
  rw [getD_of ho, hop]
theorem readsB_look {t : TypeId} {x y : Operand} {c : Bool} (ho : l[i]? = some o) (hop : o.op = .lookup t x y c) : readsB l.toArray i = true := by
  unfold readsB
  rw [getD_of ho, hop]
theorem wpSched_look {v : Value} {t : TypeId} {x y : Operand} {c : Bool} (ho : l[i]? = some o) (hop : o.op = .lookup t x y c) (hw : Region.wanted o (yielded l.toArray a.tmps) = true) (hr : ∀ w', T w' → (execOp a.eval o).run P w' = .ok (.value v) w') (h : wpSched P l.toArray Q T π rest (a.put o.dst v) w) :
    wpSched P l.toArray Q T π ((i, true) :: rest) a w := by
  refine ⟨v, ?_, ?_⟩ <;> rw [getD_of ho]
  · exact .inl ⟨hw, fun w' h => hr w' (h (readsB_look ho hop))⟩
  · exact h
theorem wpSched_value {v : Value} {t : TypeId} {x : Operand} (ho : l[i]? = some o) (hop : o.op = .load t x) (hw : Region.wanted o (yielded l.toArray a.tmps) = true) (hr : ∀ w', T w' → (execOp a.eval o).run P w' = .ok (.value v) w') (h : wpSched P l.toArray Q T π rest (a.put o.dst v) w) :
    wpSched P l.toArray Q T π ((i, true) :: rest) a w := by
  refine ⟨v, ?_, ?_⟩ <;> rw [getD_of ho]
  · exact .inl ⟨hw, fun w' h => hr w' (h (readsB_of ho hop))⟩
  · exact h
theorem wpSched_pure {v : Value} (ho : l[i]? = some o) (hw : Region.wanted o (yielded l.toArray a.tmps) = true) (hr : ∀ w', (execOp a.eval o).run P w' = .ok (.value v) w') (h : wpSched P l.toArray Q T π rest (a.put o.dst v) w) :
    wpSched P l.toArray Q T π ((i, true) :: rest) a w := by
  refine ⟨v, ?_, ?_⟩ <;> rw [getD_of ho]
  · exact .inl ⟨hw, fun w' _ => hr w'⟩
  · exact h
theorem wpSched_loud (ho : l[i]? = some o) (h : wpList P l.toArray (thenQ Q (keepS l.toArray π T i) (wpSched P l.toArray Q T π rest)) [o] a w) :
    wpSched P l.toArray Q T π ((i, false) :: rest) a w := by
  unfold wpSched
  rw [getD_of ho]
  exact h
theorem thenQ_free {S : World → Prop} {R : Act → World → Prop} (hb : keepB l.toArray π i = false) (h : R a w) : thenQ Q (keepS l.toArray π S i) R .normal a w := ⟨fun hk => (by rw [hb] at hk; cases hk), h⟩
theorem thenQ_keep {S : World → Prop} {R : Act → World → Prop} (hs : S w) (h : R a w) : thenQ Q (keepS l.toArray π S i) R .normal a w := ⟨fun _ => hs, h⟩
/-- The pieces that stay, of those that are the call's own. -/
theorem Own.held {W w : World} {L Ls : List Ent} (h : Own W w L) (hs : Ls.Sublist L) : Held Ls w := fun e he => h.has e (hs.mem he)
variable {Ls Ls' : List Ent}
theorem wpSched_loadAll {b n : Nat} {cs : List Value} {U t : TypeId} {x : Operand} (ho : l[i]? = some o) (hop : o.op = .load t x) (hx : a.eval x = .pointer (some ⟨b, 0, none⟩)) (hat : At (box b (.cells cs.toArray U)) (box b (.cells cs.toArray U)) Ls Ls')
    (ht : IsAgg P t n) (hn : cs.length = n) (hw : Region.wanted o (yielded l.toArray a.tmps) = true) (h : wpSched P l.toArray Q (Held Ls) π rest (a.put o.dst (.agg cs.toArray)) w) : wpSched P l.toArray Q (Held Ls) π ((i, true) :: rest) a w :=
  wpSched_value ho hop hw (fun w' hw' => run_load_at x hop hx (fun j v hv => by rw [addAt, cellAt (hw' _ hat.mem)]; simpa using hv) (by rw [hn]; exact ht.1)) h
theorem wpSched_loadOne {b off : Nat} {cs : List Value} {v : Value} {U t : TypeId} {x : Operand} (ho : l[i]? = some o) (hop : o.op = .load t x) (hx : a.eval x = .pointer (some ⟨b, off, none⟩)) (hat : At (box b (.cells cs.toArray U)) (box b (.cells cs.toArray U)) Ls Ls')
    (hv : cs[off]? = some v) (ht : IsOne P t) (hw : Region.wanted o (yielded l.toArray a.tmps) = true) (h : wpSched P l.toArray Q (Held Ls) π rest (a.put o.dst v) w) : wpSched P l.toArray Q (Held Ls) π ((i, true) :: rest) a w :=
  wpSched_value ho hop hw (fun w' hw' => run_load_at1 x hop hx (by rw [cellAt (hw' _ hat.mem)]; exact hv) ht.1) h
end
section
variable {P : Program}
/-- The beginning: L the call's own pieces, Ls those among them that stay till all that is quiet has come up. -/
theorem region_sched2 {Q : Exit → Act → World → Prop} {W w : World} {L : List Ent} {id : Nat} {a : Act} {l : List Oper} (Ls : List Ent) (π : List (Nat × Bool)) (hO : Own W w L) (hLs : Ls.Sublist L) (hm : P.follows .mixedOrders = true)
    (hB : (Region.noSelect l.toArray && decide (π.length = l.length) && schedC l.toArray π π (Array.replicate l.toArray.size false)) = true)
    (h : ∀ w', Own W w' L → wpSched P l.toArray (NoPanic Q) (Held Ls) π π a w') : (Code.region id l.toArray true).wp P Q a w := by
  simp only [Bool.and_eq_true, decide_eq_true_eq] at hB
  obtain ⟨⟨h1, h2⟩, h3⟩ := hB
  refine wp_region_noPanic (wp_region_any hm (wpAny_of_each (S := keepW l.toArray π (Held Ls)) _ _ _ _ ?_))
  have hO' := hO.drew
  have := each_of_sched (P := P) (Q := NoPanic Q) (T := Held Ls) h1 (fun _ _ _ _ _ hh => (hh : False).elim) π π _ a _ h3 (fun j o hj => by simp [Array.getElem?_replicate] at hj; split at hj <;> simp at hj) (fun _ e he => hO'.has e (hLs.mem he)) (h _ hO')
  rw [h2] at this
  simpa using this
end
end Go.Own
namespace Go.Own
open Go.RowKit

section
variable {P : Program} {w : World}
theorem run_loadVar_box {b n : Nat} {cs : List Value} {T t : TypeId} (hb : w.heap[b]? = some (.cells cs.toArray T)) (ht : IsAgg P t n) (hn : cs.length = n) : (loadVar t ⟨b, 0, none⟩).run P w = .ok (.agg cs.toArray) w := by
  have hc : (loadCells ⟨b, 0, none⟩ cs.length).run P w = .ok cs.toArray w := run_loadCells_list (P := P) w _ cs (fun j v hv => by rw [addAt, cellAt hb]; simpa using hv)
  obtain ⟨h1, h2⟩ := run_isAgg_yes ht.out w
  rw [hn] at hc
  simp [loadVar, h1, h2, hc]
/-- A result that lies in a box of the call's own, and one that does not. -/
theorem results_box {fn : Func} {tmps : Array Value} {i j t n b : Nat} {cs : List Value} {T : TypeId} {u : Value} {W : World} {L L' : List Ent} (hO : Own W w L) (hr : fn.results = #[.cell i t, .tmp j]) (hi : tmps.getD i undef = .pointer (some ⟨b, 0, none⟩))
    (hat : At (box b (.cells cs.toArray T)) (box b (.cells cs.toArray T)) L L') (ht : IsAgg P t n) (hn : cs.length = n) (hj : tmps.getD j undef = u) : (results fn tmps).run P w = .ok (.tuple #[.agg cs.toArray, u]) w := by
  have h1 := run_loadVar_box (P := P) (hO.has _ hat.mem) ht hn
  simp only [Array.getD_eq_getD_getElem?] at hi hj
  have ha : asAddr (tmps[i]?.getD undef) = (pure ⟨b, 0, none⟩ : Sem Addr) := by rw [hi]; rfl
  unfold results
  rw [hr]
  simp [ha, h1, hj]
end
section
variable {P : Program} {Q : Exit → Act → World → Prop} {π rest : List (Nat × Bool)} {i : Nat} {l : List Oper} {a : Act} {w : World} {o : Oper} {Ls Ls' : List Ent}
theorem wpSched_loadAt {T : World → Prop} {p : Addr} {cs : List Value} {t m : Nat} {x : Operand} (ho : l[i]? = some o) (hop : o.op = .load t x) (hx : a.eval x = .pointer (some p)) (hc : ∀ w', T w' → ∀ j u, cs[j]? = some u → w'.cell? (p.add j) = some u) (ht : IsAgg P t m) (hm : cs.length = m)
    (hw : Region.wanted o (yielded l.toArray a.tmps) = true) (h : wpSched P l.toArray Q T π rest (a.put o.dst (.agg cs.toArray)) w) : wpSched P l.toArray Q T π ((i, true) :: rest) a w :=
  wpSched_value ho hop hw (fun w' hw' => run_load_at x hop hx (hc w' hw') (by rw [hm]; exact ht.1)) h
theorem wpSched_loadAt1 {T : World → Prop} {p : Addr} {v : Value} {t : Nat} {x : Operand} (ho : l[i]? = some o) (hop : o.op = .load t x) (hx : a.eval x = .pointer (some p)) (hc : ∀ w', T w' → w'.cell? p = some v) (ht : IsOne P t)
    (hw : Region.wanted o (yielded l.toArray a.tmps) = true) (h : wpSched P l.toArray Q T π rest (a.put o.dst v) w) : wpSched P l.toArray Q T π ((i, true) :: rest) a w :=
  wpSched_value ho hop hw (fun w' hw' => run_load_at1 x hop hx (hc w' hw') ht.1) h
end
section
theorem Own.perm {W w : World} {L L' : List Ent} (h : Own W w L) (hp : L.Perm L') : Own W w L' :=
  ⟨h.grown, fun e he => h.has e (hp.mem_iff.2 he), fun e he => h.ok e (hp.mem_iff.2 he), fun e he => h.lt e (hp.mem_iff.2 he), fun e he => h.new e (hp.mem_iff.2 he),
    (hp.pairwise_iff (fun {_e _f} hef b hb hb' => hef b hb' hb)).1 h.apart⟩
theorem At.front {x y : Ent} : ∀ {L L' : List Ent}, At x y L L' → ∃ M, L.Perm (x :: M) ∧ L'.Perm (y :: M)
  | _, _, .head l => ⟨l, .refl _, .refl _⟩
  | _, _, .tail z l l' h => by
    obtain ⟨M, h1, h2⟩ := h.front
    exact ⟨z :: M, (h1.cons z).trans (.swap _ _ _), (h2.cons z).trans (.swap _ _ _)⟩
end
end Go.Own
namespace Go.Proofs.YtibabfedpdoofaaGreatDoor

structure Pst where
  id : ByteArray
  o : Int
  d : Int
  c : Int
  a : Int
deriving DecidableEq

def inI (n : Int) : Bool := decide (-9223372036854775808 ≤ n ∧ n ≤ 9223372036854775807)
theorem inI_iff {n : Int} : inI n = true ↔ -9223372036854775808 ≤ n ∧ n ≤ 9223372036854775807 := by simp [inI]
def addI (a b : Int) : Int × Bool := if inI (a + b) = true then (a + b, true) else (0, false)
def subI (a b : Int) : Int × Bool := if inI (a - b) = true then (a - b, true) else (0, false)
def acct (n : Int) : Bool := decide (0 ≤ n ∧ n ≤ 4)
def mayPst (p : Pst) : Bool := decide (p.id.size ≠ 0 ∧ 1 ≤ p.o ∧ 0 ≤ p.d ∧ p.d ≤ 4 ∧ 0 ≤ p.c ∧ p.c ≤ 4 ∧ p.d ≠ p.c ∧ 0 ≤ p.a)
theorem mayPst_iff {p : Pst} : mayPst p = true ↔ p.id.size ≠ 0 ∧ 1 ≤ p.o ∧ 0 ≤ p.d ∧ p.d ≤ 4 ∧ 0 ≤ p.c ∧ p.c ≤ 4 ∧ p.d ≠ p.c ∧ 0 ≤ p.a := by simp [mayPst]
/-- What a posting moves. -/
def delta (p : Pst) (n o : Int) : Int := if o ≠ 0 ∧ p.o ≠ o then 0 else if p.d = n then p.a else if p.c = n then -p.a else 0
def bal : List Pst → Int → Int → Int
  | [], _, _ => 0
  | p :: l, n, o => delta p n o + bal l n o
theorem bal_app (n o : Int) : ∀ l m : List Pst, bal (l ++ m) n o = bal l n o + bal m n o
  | [], m => by simp [bal]
  | p :: l, m => by simp [bal, bal_app n o l m]; omega
theorem bal_snoc (l : List Pst) (p : Pst) (n o : Int) : bal (l ++ [p]) n o = bal l n o + delta p n o := by rw [bal_app]; simp [bal]
def findP (l : List Pst) (id : ByteArray) : Option Pst := l.find? (fun q => decide (q.id = id))
def fitsPst (l : List Pst) (p : Pst) : Bool := inI (bal l p.d 0 + p.a) && inI (bal l p.c 0 - p.a) && (inI (bal l p.d p.o + p.a) && inI (bal l p.c p.o - p.a))
def postE (l : List Pst) (p : Pst) : Int := if mayPst p = true then (match findP l p.id with
  | some q => if q = p then 0 else 91
  | none => if fitsPst l p = true then 0 else 90) else 2
def postL (l : List Pst) (p : Pst) : List Pst := if (mayPst p && ((findP l p.id).isNone && fitsPst l p)) = true then l ++ [p] else l
/-- Lists of postings that books can come to. -/
inductive Bk : List Pst → Prop
  | nil : Bk []
  | snoc (l : List Pst) (p : Pst) (h : Bk l) (hm : mayPst p = true) (hn : findP l p.id = none) (hf : fitsPst l p = true) : Bk (l ++ [p])
theorem Bk.post {l : List Pst} (h : Bk l) (p : Pst) : Bk (postL l p) := by
  unfold postL
  split
  · rename_i hc
    simp only [Bool.and_eq_true] at hc
    exact .snoc l p h hc.1 (by simpa using hc.2.1) hc.2.2
  · exact h
theorem Bk.may {l : List Pst} (h : Bk l) : ∀ p ∈ l, mayPst p = true := by
  induction h with
  | nil => simp
  | snoc l p h hm hn hf ih =>
    intro q hq
    rcases List.mem_append.1 hq with hq | hq
    · exact ih q hq
    · rw [List.mem_singleton.1 hq]; exact hm
theorem delta_inI {p : Pst} (hm : mayPst p = true) (l : List Pst) (hf : fitsPst l p = true) (hl : ∀ n o, inI (bal l n o) = true) (n o : Int) : inI (bal l n o + delta p n o) = true := by
  have hm := mayPst_iff.1 hm
  have h0 := hl n o
  simp only [fitsPst, Bool.and_eq_true] at hf
  unfold delta
  split
  · rw [Int.add_zero]; exact h0
  · rename_i hc
    by_cases ho : o = 0
    · subst ho
      split
      · rename_i hd; subst hd; exact hf.1.1
      · split
        · rename_i hd; subst hd; rw [← Int.sub_eq_add_neg]; exact hf.1.2
        · rw [Int.add_zero]; exact h0
    · obtain rfl : p.o = o := by
        rcases Classical.not_and_iff_not_or_not.1 hc with hc | hc
        · exact absurd ho hc
        · exact Classical.not_not.1 hc
      split
      · rename_i hd; subst hd; exact hf.2.1
      · split
        · rename_i hd; subst hd; rw [← Int.sub_eq_add_neg]; exact hf.2.2
        · rw [Int.add_zero]; exact h0
theorem Bk.bal_in {l : List Pst} (h : Bk l) : ∀ n o, inI (bal l n o) = true := by
  induction h with
  | nil => intro n o; rfl
  | snoc l p h hm hn hf ih => intro n o; rw [bal_snoc]; exact delta_inI hm l hf ih n o
theorem addI_in (a b : Int) : inI (addI a b).1 = true := by
  unfold addI
  split
  · assumption
  · rfl
theorem subI_in (a b : Int) : inI (subI a b).1 = true := by
  unfold subI
  split
  · assumption
  · rfl
end Go.Proofs.YtibabfedpdoofaaGreatDoor
namespace Go.Proofs.YtibabfedpdoofaaGreatDoor
open Go.RowKit Go.Own

def pstC (p : Pst) : List Value := [.string p.id, .int .i64 p.o, .int .i64 p.d, .int .i64 p.c, .int .i64 p.a]
def pstV (p : Pst) : Value := .agg (pstC p).toArray
theorem wrap_in {n : Int} (h : inI n = true) : IntKind.i64.wrap n = n := by
  have := inI_iff.1 h
  rw [IntKind.wrap_i64]; omega

set_option maxHeartbeats 4000000 in
theorem mAdd_any {a b : Int} (ha : inI a = true) (hb : inI b = true) (w : World) : Calls Tryz.prog 51 #[.int .i64 a, .int .i64 b] w fun e w' => e = .returned (.tuple #[.int .i64 (addI a b).1, .bool (addI a b).2]) ∧ Below w.heap.size w w' := by
  have h1 := inI_iff.1 ha
  have h2 := inI_iff.1 hb
  have HO := Own.start w
  have HQ := Lib.hid (show addI a b = addI a b from rfl)
  have w1 : IntKind.i64.wrap (9223372036854775807 - b) = if b < 0 then 9223372036854775807 - b - 18446744073709551616 else 9223372036854775807 - b := by rw [IntKind.wrap_i64]; split <;> omega
  have w2 : IntKind.i64.wrap (-9223372036854775808 - b) = if 0 < b then -9223372036854775808 - b + 18446744073709551616 else -9223372036854775808 - b := by rw [IntKind.wrap_i64]; split <;> omega
  by_cases b1 : 0 < b
  · have b2 : ¬ b < 0 := by omega
    rw [if_neg b2] at w1
    by_cases c : 9223372036854775807 - b < a
    · have e : addI a b = (0, false) := by unfold addI; rw [if_neg (by rw [inI_iff]; omega)]
      rw [e]
      clear HQ e ha hb w2
      go_enter Tryz.func51, Tryz.ntmps51
      go_wp2_with fail
      refine bodyPost_ret ?_ rfl ⟨rfl, HO.grown⟩
      (simp only [results, Tryz.results51]; go_simp)
    · have e : addI a b = (a + b, true) := by unfold addI; rw [if_pos (by rw [inI_iff]; omega)]
      have w3 : IntKind.i64.wrap (a + b) = a + b := by rw [IntKind.wrap_i64]; omega
      rw [e]
      clear HQ e ha hb w2
      go_enter Tryz.func51, Tryz.ntmps51
      go_wp2_with fail
      refine bodyPost_ret ?_ rfl ⟨rfl, HO.grown⟩
      (simp only [results, Tryz.results51]; go_simp)
  · by_cases b2 : b < 0
    · rw [if_neg b1] at w2
      by_cases c : a < -9223372036854775808 - b
      · have e : addI a b = (0, false) := by unfold addI; rw [if_neg (by rw [inI_iff]; omega)]
        rw [e]
        clear HQ e ha hb w1
        go_enter Tryz.func51, Tryz.ntmps51
        go_wp2_with fail
        refine bodyPost_ret ?_ rfl ⟨rfl, HO.grown⟩
        (simp only [results, Tryz.results51]; go_simp)
      · have e : addI a b = (a + b, true) := by unfold addI; rw [if_pos (by rw [inI_iff]; omega)]
        have w3 : IntKind.i64.wrap (a + b) = a + b := by rw [IntKind.wrap_i64]; omega
        rw [e]
        clear HQ e ha hb w1
        go_enter Tryz.func51, Tryz.ntmps51
        go_wp2_with fail
        refine bodyPost_ret ?_ rfl ⟨rfl, HO.grown⟩
        (simp only [results, Tryz.results51]; go_simp)
    · have e : addI a b = (a + b, true) := by unfold addI; rw [if_pos (by rw [inI_iff]; omega)]
      have w3 : IntKind.i64.wrap (a + b) = a + b := by rw [IntKind.wrap_i64]; omega
      rw [e]
      clear HQ e ha hb w1 w2
      go_enter Tryz.func51, Tryz.ntmps51
      go_wp2_with fail
      refine bodyPost_ret ?_ rfl ⟨rfl, HO.grown⟩
      (simp only [results, Tryz.results51]; go_simp)

set_option maxHeartbeats 4000000 in
theorem mSub_any {a b : Int} (ha : inI a = true) (hb : inI b = true) (w : World) : Calls Tryz.prog 49 #[.int .i64 a, .int .i64 b] w fun e w' => e = .returned (.tuple #[.int .i64 (subI a b).1, .bool (subI a b).2]) ∧ Below w.heap.size w w' := by
  have h1 := inI_iff.1 ha
  have h2 := inI_iff.1 hb
  have HO := Own.start w
  have w1 : b < 0 → IntKind.i64.wrap (9223372036854775807 + b) = 9223372036854775807 + b := fun _ => by rw [IntKind.wrap_i64]; omega
  have w2 : 0 < b → IntKind.i64.wrap (-9223372036854775808 + b) = -9223372036854775808 + b := fun _ => by rw [IntKind.wrap_i64]; omega
  by_cases b1 : b < 0
  · replace w1 := w1 b1
    have b2 : ¬ 0 < b := by omega
    by_cases c : 9223372036854775807 + b < a
    · have e : subI a b = (0, false) := by unfold subI; rw [if_neg (by rw [inI_iff]; omega)]
      rw [e]
      clear e ha hb w2
      go_enter Tryz.func49, Tryz.ntmps49
      go_wp2_with fail
      refine bodyPost_ret ?_ rfl ⟨rfl, HO.grown⟩
      (simp only [results, Tryz.results49]; go_simp)
    · have e : subI a b = (a - b, true) := by unfold subI; rw [if_pos (by rw [inI_iff]; omega)]
      have w3 : IntKind.i64.wrap (a - b) = a - b := by rw [IntKind.wrap_i64]; omega
      rw [e]
      clear e ha hb w2
      go_enter Tryz.func49, Tryz.ntmps49
      go_wp2_with fail
      refine bodyPost_ret ?_ rfl ⟨rfl, HO.grown⟩
      (simp only [results, Tryz.results49]; go_simp)
  · by_cases b2 : 0 < b
    · replace w2 := w2 b2
      by_cases c : a < -9223372036854775808 + b
      · have e : subI a b = (0, false) := by unfold subI; rw [if_neg (by rw [inI_iff]; omega)]
        rw [e]
        clear e ha hb w1
        go_enter Tryz.func49, Tryz.ntmps49
        go_wp2_with fail
        refine bodyPost_ret ?_ rfl ⟨rfl, HO.grown⟩
        (simp only [results, Tryz.results49]; go_simp)
      · have e : subI a b = (a - b, true) := by unfold subI; rw [if_pos (by rw [inI_iff]; omega)]
        have w3 : IntKind.i64.wrap (a - b) = a - b := by rw [IntKind.wrap_i64]; omega
        rw [e]
        clear e ha hb w1
        go_enter Tryz.func49, Tryz.ntmps49
        go_wp2_with fail
        refine bodyPost_ret ?_ rfl ⟨rfl, HO.grown⟩
        (simp only [results, Tryz.results49]; go_simp)
    · have e : subI a b = (a - b, true) := by unfold subI; rw [if_pos (by rw [inI_iff]; omega)]
      have w3 : IntKind.i64.wrap (a - b) = a - b := by rw [IntKind.wrap_i64]; omega
      rw [e]
      clear e ha hb w1 w2
      go_enter Tryz.func49, Tryz.ntmps49
      go_wp2_with fail
      refine bodyPost_ret ?_ rfl ⟨rfl, HO.grown⟩
      (simp only [results, Tryz.results49]; go_simp)

theorem wrap_cases {n : Int} (h : -18446744073709551616 ≤ n ∧ n ≤ 18446744073709551615) : (inI n = true ∧ IntKind.i64.wrap n = n) ∨ (9223372036854775807 < n ∧ IntKind.i64.wrap n = n - 18446744073709551616) ∨ (n < -9223372036854775808 ∧ IntKind.i64.wrap n = n + 18446744073709551616) := by
  rw [inI_iff, IntKind.wrap_i64]; omega

set_option maxHeartbeats 4000000 in
theorem rAdd_any {a b : Int} (ha : inI a = true) (hb : inI b = true) (w : World) : Calls Tryz.prog 75 #[.int .i64 a, .int .i64 b] w fun e w' => e = .returned (.tuple #[.int .i64 (addI a b).1, .bool (addI a b).2]) ∧ Below w.heap.size w w' := by
  have h1 := inI_iff.1 ha
  have h2 := inI_iff.1 hb
  have HO := Own.start w
  rcases wrap_cases (n := a + b) (by omega) with ⟨c, w1⟩ | ⟨c, w1⟩ | ⟨c, w1⟩
  · have e : addI a b = (a + b, true) := by unfold addI; rw [if_pos c]
    rw [e]
    have c := inI_iff.1 c
    clear e ha hb
    by_cases a1 : 0 ≤ a <;> by_cases b1 : 0 ≤ b <;> by_cases d1 : a + b < 0 <;> try omega
    all_goals
      have a2 : (a < 0) = ¬ (0 ≤ a) := by simp
      have b2 : (b < 0) = ¬ (0 ≤ b) := by simp
      have d2 : (0 ≤ a + b) = ¬ (a + b < 0) := by simp
      go_enter Tryz.func75, Tryz.ntmps75
      go_wp2_with fail
      refine bodyPost_ret ?_ rfl ⟨rfl, HO.grown⟩
      (simp only [results, Tryz.results75]; go_simp)
  · have e : addI a b = (0, false) := by unfold addI; rw [if_neg (by rw [inI_iff]; omega)]
    rw [e]
    have a1 : 0 ≤ a := by omega
    have b1 : 0 ≤ b := by omega
    have d1 : a + b - 18446744073709551616 < 0 := by omega
    clear e ha hb
    go_enter Tryz.func75, Tryz.ntmps75
    go_wp2_with fail
    refine bodyPost_ret ?_ rfl ⟨rfl, HO.grown⟩
    (simp only [results, Tryz.results75]; go_simp)
  · have e : addI a b = (0, false) := by unfold addI; rw [if_neg (by rw [inI_iff]; omega)]
    rw [e]
    have a1 : ¬ 0 ≤ a := by omega
    have a2 : a < 0 := by omega
    have b1 : b < 0 := by omega
    have d1 : 0 ≤ a + b + 18446744073709551616 := by omega
    clear e ha hb
    go_enter Tryz.func75, Tryz.ntmps75
    go_wp2_with fail
    refine bodyPost_ret ?_ rfl ⟨rfl, HO.grown⟩
    (simp only [results, Tryz.results75]; go_simp)

set_option maxHeartbeats 4000000 in
theorem acct_any (n : Int) (w : World) : Calls Tryz.prog 167 #[.int .i64 n] w fun e w' => e = .returned (.bool (acct n)) ∧ Below w.heap.size w w' := by
  have HO := Own.start w
  by_cases h1 : 0 ≤ n <;> by_cases h2 : n ≤ 4
  all_goals
    go_enter Tryz.func167, Tryz.ntmps167
    go_wp2_with fail
    go_ret
    exact ⟨by simp [acct, h1, h2], HO.grown⟩
end Go.Proofs.YtibabfedpdoofaaGreatDoor

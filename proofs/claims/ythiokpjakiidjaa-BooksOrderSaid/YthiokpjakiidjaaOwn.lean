/-
  Memory that a call has made for its own: read, written, kept through calls, over any program; conditions: none.
-/
import Derived.Test.YthiokpjakiidjaaList
namespace Go
open Go.RowKit
namespace Own

/-- A piece of memory: its blocks, and what is known of it. -/
structure Ent where
  bs : List Nat
  F : World → Prop
/-- What is known of it hangs on its blocks alone. -/
def Ent.Ok (e : Ent) : Prop := ∀ w w' : World, (∀ b ∈ e.bs, w'.heap[b]? = w.heap[b]?) → e.F w → e.F w'
def Ent.Lt (e : Ent) : Prop := ∀ w : World, e.F w → ∀ b ∈ e.bs, b < w.heap.size
/-- Memory of the call's own: W, the world when it began, has not changed; the pieces L are its own, apart. -/
structure Own (W w : World) (L : List Ent) : Prop where
  grown : Below W.heap.size W w
  has : ∀ e ∈ L, e.F w
  ok : ∀ e ∈ L, e.Ok
  lt : ∀ e ∈ L, ∀ b ∈ e.bs, b < w.heap.size
  new : ∀ e ∈ L, ∀ b ∈ e.bs, W.heap.size ≤ b
  apart : L.Pairwise fun e f => ∀ b ∈ e.bs, b ∉ f.bs

/-- L with x in the place of y is L'. -/
inductive At {α : Type} (x y : α) : List α → List α → Prop
  | head (l : List α) : At x y (x :: l) (y :: l)
  | tail (z : α) (l l' : List α) (h : At x y l l') : At x y (z :: l) (z :: l')
theorem At.mem {α : Type} {x y : α} : ∀ {l l' : List α}, At x y l l' → x ∈ l
  | _, _, .head _ => List.mem_cons_self
  | _, _, .tail _ _ _ h => List.mem_cons_of_mem _ h.mem
theorem At.memY {α : Type} {x y : α} : ∀ {l l' : List α}, At x y l l' → y ∈ l'
  | _, _, .head _ => List.mem_cons_self
  | _, _, .tail _ _ _ h => List.mem_cons_of_mem _ h.memY
theorem At.mem' {α : Type} {x y : α} : ∀ {l l' : List α}, At x y l l' → ∀ p ∈ l', p = y ∨ p ∈ l
  | _, _, .head _, p, hp => by
    rcases List.mem_cons.1 hp with h | h
    · exact .inl h
    · exact .inr (List.mem_cons_of_mem _ h)
  | _, _, .tail z l l' h, p, hp => by
    rcases List.mem_cons.1 hp with e | e
    · exact .inr (e ▸ List.mem_cons_self)
    · rcases h.mem' p e with e | e
      · exact .inl e
      · exact .inr (List.mem_cons_of_mem _ e)
/-- The others are apart from the one that has turned. -/
theorem At.others {x y : Ent} : ∀ {l l' : List Ent}, At x y l l' → l.Pairwise (fun e f => ∀ b ∈ e.bs, b ∉ f.bs) → ∀ p ∈ l', p = y ∨ (p ∈ l ∧ ∀ b ∈ p.bs, b ∉ x.bs)
  | _, _, .head l, hn, p, hp => by
    rcases List.mem_cons.1 hp with h | h
    · exact .inl h
    · exact .inr ⟨List.mem_cons_of_mem _ h, fun b hb hx => (List.pairwise_cons.1 hn).1 p h b hx hb⟩
  | _, _, .tail z l l' h, hn, p, hp => by
    have hn' := List.pairwise_cons.1 hn
    rcases List.mem_cons.1 hp with e | e
    · exact .inr ⟨e ▸ List.mem_cons_self, fun b hb hx => hn'.1 x h.mem b (e ▸ hb) hx⟩
    · rcases h.others hn'.2 p e with e | ⟨e, e2⟩
      · exact .inl e
      · exact .inr ⟨List.mem_cons_of_mem _ e, e2⟩
theorem At.pair {x y : Ent} {N : Nat} (hxy : ∀ b ∈ y.bs, b ∈ x.bs ∨ N ≤ b) : ∀ {l l' : List Ent}, At x y l l' → (∀ e ∈ l, ∀ b ∈ e.bs, b < N) → l.Pairwise (fun e f => ∀ b ∈ e.bs, b ∉ f.bs) → l'.Pairwise (fun e f => ∀ b ∈ e.bs, b ∉ f.bs)
  | _, _, .head l, hN, hn => by
    have hn' := List.pairwise_cons.1 hn
    refine List.pairwise_cons.2 ⟨fun p hp b hb hb' => ?_, hn'.2⟩
    rcases hxy b hb with h | h
    · exact hn'.1 p hp b h hb'
    · have := hN p (List.mem_cons_of_mem _ hp) b hb'; omega
  | _, _, .tail z l l' h, hN, hn => by
    have hn' := List.pairwise_cons.1 hn
    refine List.pairwise_cons.2 ⟨fun p hp b hb hb' => ?_, h.pair hxy (fun e he => hN e (List.mem_cons_of_mem _ he)) hn'.2⟩
    rcases h.mem' p hp with e | e
    · subst e
      rcases hxy b hb' with h1 | h1
      · exact hn'.1 x h.mem b hb h1
      · have := hN z List.mem_cons_self b hb; omega
    · exact hn'.1 p e b hb hb'

theorem Own.start (W : World) : Own W W [] := ⟨Below.refl _ _, by simp, by simp, by simp, by simp, List.Pairwise.nil⟩
theorem Own.call {W w w1 : World} {L : List Ent} (h : Own W w L) (hb : Below w.heap.size w w1) : Own W w1 L :=
  ⟨h.grown.trans (hb.mono h.grown.size), fun p hp => h.ok p hp w w1 (fun b hb' => hb.block _ (h.lt p hp b hb')) (h.has p hp), h.ok, fun p hp b hb' => Nat.lt_of_lt_of_le (h.lt p hp b hb') hb.size, h.new, h.apart⟩
theorem Own.drew {W w : World} {L : List Ent} (h : Own W w L) : Own W w.drew L := h.call (Below.refl _ _).drew
/-- A piece more. -/
theorem Own.more {W w w1 : World} {L : List Ent} {e : Ent} (h : Own W w L) (hb : Below w.heap.size w w1) (hok : e.Ok) (hF : e.F w1) (hnew : ∀ b ∈ e.bs, w.heap.size ≤ b) (hlt : ∀ b ∈ e.bs, b < w1.heap.size) : Own W w1 (e :: L) := by
  have h1 := h.call hb
  refine ⟨h1.grown, fun p hp => ?_, fun p hp => ?_, fun p hp => ?_, fun p hp => ?_, List.pairwise_cons.2 ⟨fun p hp b hb hb' => ?_, h.apart⟩⟩
  · rcases List.mem_cons.1 hp with e | e
    · rw [e]; exact hF
    · exact h1.has p e
  · rcases List.mem_cons.1 hp with e | e
    · rw [e]; exact hok
    · exact h1.ok p e
  · rcases List.mem_cons.1 hp with e | e
    · rw [e]; exact hlt
    · exact h1.lt p e
  · rcases List.mem_cons.1 hp with e | e
    · rw [e]; exact fun b hb => Nat.le_trans h.grown.size (hnew b hb)
    · exact h1.new p e
  · have := h.lt p hp b hb'
    have := hnew b hb
    omega
/-- A piece turned. -/
theorem Own.turn {W w w1 : World} {L L' : List Ent} {e e' : Ent} (h : Own W w L) (hat : At e e' L L') (hs : w1.os = w.os) (ht : w1.tape = w.tape) (hp : w1.output = w.output) (hz : w.heap.size ≤ w1.heap.size)
    (hk : ∀ k, k < w.heap.size → k ∉ e.bs → w1.heap[k]? = w.heap[k]?) (hok : e'.Ok) (hF : e'.F w1) (hbs : ∀ b ∈ e'.bs, b ∈ e.bs ∨ w.heap.size ≤ b) (hlt : ∀ b ∈ e'.bs, b < w1.heap.size) : Own W w1 L' := by
  have hB := h.new _ hat.mem
  have hg := h.grown.size
  refine ⟨h.grown.trans ⟨hs, ht, hp, hz, fun k hk' => hk k (by omega) (fun hm => ?_)⟩, fun p hp => ?_, fun p hp => ?_, fun p hp => ?_, fun p hp => ?_, hat.pair hbs h.lt h.apart⟩
  · have := hB k hm; omega
  · rcases hat.others h.apart p hp with e | ⟨e, e2⟩
    · rw [e]; exact hF
    · exact h.ok p e w w1 (fun b hb => hk b (h.lt p e b hb) (e2 b hb)) (h.has p e)
  · rcases hat.mem' p hp with e | e
    · rw [e]; exact hok
    · exact h.ok p e
  · rcases hat.mem' p hp with e | e
    · rw [e]; exact hlt
    · exact fun b hb => Nat.lt_of_lt_of_le (h.lt p e b hb) hz
  · rcases hat.mem' p hp with e | e
    · rw [e]
      intro b hb
      rcases hbs b hb with h1 | h1
      · exact hB b h1
      · omega
    · exact h.new p e
theorem Own.tail {W w : World} {L : List Ent} {e : Ent} (h : Own W w (e :: L)) : Own W w L :=
  ⟨h.grown, fun q hq => h.has q (List.mem_cons_of_mem _ hq), fun q hq => h.ok q (List.mem_cons_of_mem _ hq), fun q hq => h.lt q (List.mem_cons_of_mem _ hq), fun q hq => h.new q (List.mem_cons_of_mem _ hq), (List.pairwise_cons.1 h.apart).2⟩
theorem Own.sub {W w : World} {L L' : List Ent} (h : Own W w L) (hs : L'.Sublist L) : Own W w L' :=
  ⟨h.grown, fun p hp => h.has p (hs.mem hp), fun p hp => h.ok p (hs.mem hp), fun p hp => h.lt p (hs.mem hp), fun p hp => h.new p (hs.mem hp), h.apart.sublist hs⟩
/-- Two pieces change places. -/
theorem Own.swap {W w : World} {L : List Ent} {e f : Ent} (h : Own W w (e :: f :: L)) : Own W w (f :: e :: L) := by
  have hp : (f :: e :: L).Perm (e :: f :: L) := List.Perm.swap _ _ _
  refine ⟨h.grown, fun p hq => h.has p (hp.mem_iff.1 hq), fun p hq => h.ok p (hp.mem_iff.1 hq), fun p hq => h.lt p (hp.mem_iff.1 hq), fun p hq => h.new p (hp.mem_iff.1 hq), ?_⟩
  have h1 := List.pairwise_cons.1 h.apart
  have h2 := List.pairwise_cons.1 h1.2
  exact List.pairwise_cons.2 ⟨fun p hp b hb hb' => by
    rcases List.mem_cons.1 hp with e | e
    · subst e; exact h1.1 f List.mem_cons_self b hb' hb
    · exact h2.1 p e b hb hb', List.pairwise_cons.2 ⟨fun p hp => h1.1 p (List.mem_cons_of_mem _ hp), h2.2⟩⟩
/-- The same piece, known otherwise. -/
theorem Own.as {W w : World} {L L' : List Ent} {e e' : Ent} (h : Own W w L) (hat : At e e' L L') (hok : e'.Ok) (hF : e.F w → e'.F w) (hbs : ∀ b ∈ e'.bs, b ∈ e.bs) : Own W w L' :=
  h.turn hat rfl rfl rfl (Nat.le_refl _) (fun _ _ _ => rfl) hok (hF (h.has _ hat.mem)) (fun b hb => .inl (hbs b hb)) (fun b hb => h.lt _ hat.mem b (hbs b hb))

/-! Pieces: a block; a row that is grown; a slice that is read. -/
def box (b : Nat) (o : Obj) : Ent := ⟨[b], fun w => w.heap[b]? = some o⟩
theorem box_ok (b : Nat) (o : Obj) : (box b o).Ok := fun w w' h hF => by
  simp only [box, List.mem_singleton, forall_eq] at *
  rw [h]; exact hF
def blkOf : Value → List Nat
  | .slice (some a) _ _ => [a.block]
  | _ => []
/-- A row of structs of k cells each, that the call grows; v: the slice. -/
def row (t : TypeId) (k : Nat) (v : Value) (A : List (List Value)) : Ent := ⟨blkOf v, fun w => w.ownsRow 0 t k v A.length A.flatten⟩
/-- Structs of k cells each, one behind the other; v: the slice. -/
def isl (k : Nat) (v : Value) (A : List (List Value)) : Ent := ⟨if A.length = 0 then [] else blkOf v, fun w => IsL w k v A⟩
theorem row_ok (t : TypeId) (k : Nat) (v : Value) (A : List (List Value)) : (row t k v A).Ok := fun w w' h hF => by
  obtain ⟨h1, h2⟩ := hF
  refine ⟨h1, ?_⟩
  rcases h2 with h2 | ⟨g, cap, cur, hv, hg, hh, r⟩
  · exact .inl h2
  · exact .inr ⟨g, cap, cur, hv, hg, by rw [h g (by rw [hv]; exact List.mem_singleton.2 rfl)]; exact hh, r⟩
theorem row_lt (t : TypeId) (k : Nat) (v : Value) (A : List (List Value)) : (row t k v A).Lt := fun w hF b hb => by
  rcases hF.2 with ⟨h2, _⟩ | ⟨g, cap, cur, hv, hg, hh, r⟩
  · subst h2; cases hb
  · subst hv
    have := List.mem_singleton.1 hb
    subst this
    exact lt_of_block hh
theorem isl_ok (k : Nat) (v : Value) (A : List (List Value)) : (isl k v A).Ok := fun w w' h hF => by
  simp only [isl] at hF h
  cases hF with
  | none sp sc hn => exact .none sp sc hn
  | some a cap L hlen hcap h0 hR =>
    have hb := h a.block (by rw [if_neg (by omega)]; exact List.mem_singleton.2 rfl)
    refine .some a cap _ hlen hcap h0 ⟨?_, fun i hi j u hu => ?_⟩
    · have h1 := hR.lt
      rw [Array.getElem?_eq_getElem h1] at hb
      exact lt_of_block hb
    · rw [← hR.c i hi j u hu]
      exact World.cell?_of_block (w := w) (by rw [lBlock, lBlock]; exact hb)
theorem isl_lt (k : Nat) (v : Value) (A : List (List Value)) : (isl k v A).Lt := fun w hF b hb => by
  simp only [isl] at hF hb
  cases hF with
  | none sp sc hn => simp at hb
  | some a cap L hlen hcap h0 hR =>
    rw [if_neg (by omega)] at hb
    have := List.mem_singleton.1 hb
    subst this
    exact hR.lt
theorem Own.alloc {W w : World} {L : List Ent} (h : Own W w L) (o : Obj) : Own W (w.alloc o) (box w.heap.size o :: L) :=
  h.more ((Below.refl _ _).alloc (Nat.le_refl _) o) (box_ok _ _) (heap_alloc_new w o) (by simp [box]) (by simp [box])
/-- An empty row. -/
theorem Own.nil {W w : World} {L : List Ent} (h : Own W w L) (t k : Nat) : Own W w (row t k (.slice none 0 0) [] :: L) :=
  h.more (Below.refl _ _) (row_ok _ _ _ _) (World.ownsRow_nil _ _ _ _) (by simp [row, blkOf]) (by simp [row, blkOf])
/-- A row reads as a slice. -/
theorem Own.read {W w : World} {L L' : List Ent} {t k : Nat} {v : Value} {A : List (List Value)} (h : Own W w L) (hat : At (row t k v A) (isl k v A) L L') (hA : ∀ l ∈ A, l.length = k) : Own W w L' :=
  h.as hat (isl_ok _ _ _) (fun hF => isL_of_owns hA hF) (fun b hb => by simp only [isl] at hb; split at hb; · cases hb
                                                                        · exact hb)
/-- A slice that a callee hands back, in memory of its own. -/
def Fresh (w : World) (v : Value) : Prop := ∀ a n c, v = .slice (some a) n c → 0 < n → w.heap.size ≤ a.block
theorem Own.got {W w w1 : World} {L : List Ent} {k : Nat} {v : Value} {A : List (List Value)} (h : Own W w L) (hb : Below w.heap.size w w1) (hv : IsL w1 k v A) (hf : Fresh w v) : Own W w1 (isl k v A :: L) := by
  refine h.more hb (isl_ok _ _ _) hv (fun b hb => ?_) (isl_lt k v A w1 hv)
  simp only [isl] at hb
  cases hv with
  | none sp sc hn => simp at hb
  | some a cap L hlen hcap h0 hR =>
    rw [if_neg (by omega)] at hb
    have := List.mem_singleton.1 hb
    subst this
    exact hf a _ _ rfl h0

/-- Cells put into a row. -/
def putL (cs : List Value) (off : Nat) (vs : List Value) : List Value := cs.take off ++ vs ++ cs.drop (off + vs.length)

section
variable {P : Program}
/-- The size of a type that is a struct or an array. -/
def aggSize (P : Program) (t : TypeId) : Option Nat :=
  match P.underlying t, P.info? t with
  | some (.struct _), some i => some i.size
  | some (.array _ _), some i => some i.size
  | _, _ => none
/-- Is a type of one cell? -/
def oneCellT (P : Program) (t : TypeId) : Bool :=
  match P.underlying t, P.info? t with
  | some (.struct _), _ => false
  | some (.array _ _), _ => false
  | some _, some i => i.size == 1
  | _, _ => false

theorem run_isAgg_yes {t n : Nat} (h : aggSize P t = some n) (w : World) : (isAgg t).run P w = .ok true w ∧ (sizeOf t).run P w = .ok n w := by
  unfold aggSize at h
  cases hu : P.underlying t with
  | none => simp [hu] at h
  | some d =>
    cases hi : P.info? t with
    | none => cases d <;> simp [hu, hi] at h
    | some i =>
      cases d <;> simp [hu, hi] at h <;> (subst h; constructor <;> simp [isAgg, underlying, sizeOf, typeInfo, hu, hi])
theorem run_isAgg_no {t : Nat} (h : oneCellT P t = true) (w : World) : (isAgg t).run P w = .ok false w ∧ (sizeOf t).run P w = .ok 1 w := by
  unfold oneCellT at h
  cases hu : P.underlying t with
  | none => simp [hu] at h
  | some d =>
    cases hi : P.info? t with
    | none => cases d <;> simp [hu, hi] at h
    | some i =>
      cases d <;> simp [hu, hi] at h <;> (constructor <;> simp [isAgg, underlying, sizeOf, typeInfo, hu, hi, h])

theorem cellAt {w : World} {b : Nat} {cs : List Value} {T : TypeId} (h : w.heap[b]? = some (.cells cs.toArray T)) (i : Nat) : w.cell? ⟨b, i, none⟩ = cs[i]? := by
  rw [cell_of_row w b i _ _ _ h]; simp
theorem frozenAt {w : World} {b : Nat} {cs : List Value} {T : TypeId} (h : w.heap[b]? = some (.cells cs.toArray T)) (i : Nat) : w.frozen? ⟨b, i, none⟩ = false := by
  unfold World.frozen?
  rw [show (⟨b, i, none⟩ : Addr).block = b from rfl, h]
  simp
theorem addAt (b off i : Nat) : (⟨b, off, none⟩ : Addr).add i = ⟨b, off + i, none⟩ := by unfold Addr.add; split <;> simp_all

theorem run_load_agg {W w : World} {L L' : List Ent} {b off n : Nat} {cs : List Value} {T t : TypeId} {o : Oper} {a : Act} (hO : Own W w L) (x : Operand) (ho : o.op = .load t x)
    (hx : a.eval x = .pointer (some ⟨b, off, none⟩)) (hat : At (box b (.cells cs.toArray T)) (box b (.cells cs.toArray T)) L L') (ht : aggSize P t = some n) (hn : off + n ≤ cs.length) :
    (execOp a.eval o).run P w = .ok (.value (.agg ((cs.drop off).take n).toArray)) w := by
  have hh : w.heap[b]? = some (.cells cs.toArray T) := hO.has _ hat.mem
  have hl : (loadCells ⟨b, off, none⟩ ((cs.drop off).take n).length).run P w = .ok ((cs.drop off).take n).toArray w :=
    run_loadCells_list (P := P) w ⟨b, off, none⟩ ((cs.drop off).take n) (fun j v hv => by
      rw [addAt, cellAt hh]
      rw [List.getElem?_take] at hv
      split at hv
      · rwa [List.getElem?_drop] at hv
      · cases hv)
  rw [show ((cs.drop off).take n).length = n by simp; omega] at hl
  obtain ⟨h1, h2⟩ := run_isAgg_yes ht w
  simp [execOp, ho, hx, Instr.loadAt, Instr.sureAddr, loadVar, h1, h2, hl]
theorem run_load_one {W w : World} {L L' : List Ent} {b off : Nat} {cs : List Value} {v : Value} {T t : TypeId} {o : Oper} {a : Act} (hO : Own W w L) (x : Operand) (ho : o.op = .load t x)
    (hx : a.eval x = .pointer (some ⟨b, off, none⟩)) (hat : At (box b (.cells cs.toArray T)) (box b (.cells cs.toArray T)) L L') (ht : oneCellT P t = true) (hv : cs[off]? = some v) :
    (execOp a.eval o).run P w = .ok (.value v) w := by
  have hh : w.heap[b]? = some (.cells cs.toArray T) := hO.has _ hat.mem
  obtain ⟨h1, h2⟩ := run_isAgg_no ht w
  simp [execOp, ho, hx, Instr.loadAt, Instr.sureAddr, loadVar, h1, cellAt hh, hv]

/-- All of a row's cells are one cell's. -/
theorem run_storeCells_own : ∀ (vs : List Value) (w : World) (b off i : Nat) (cs : List Value) (T : TypeId), w.heap[b]? = some (.cells cs.toArray T) → off + i + vs.length ≤ cs.length → (∀ v ∈ vs, v.oneCell' = true) →
    ∃ w', (storeCells ⟨b, off, none⟩ vs i).run P w = .ok () w' ∧ w'.os = w.os ∧ w'.tape = w.tape ∧ w'.output = w.output ∧ w'.heap.size = w.heap.size ∧ (∀ k, k ≠ b → w'.heap[k]? = w.heap[k]?) ∧
      w'.heap[b]? = some (.cells (putL cs (off + i) vs).toArray T)
  | [], w, b, off, i, cs, T, h, _, _ => ⟨w, rfl, rfl, rfl, rfl, rfl, fun _ _ => rfl, by simpa [putL] using h⟩
  | v :: vs, w, b, off, i, cs, T, h, hn, h1 => by
    have hi : off + i < cs.length := by simp at hn; omega
    have hc : w.cell? ⟨b, off + i, none⟩ = some cs[off + i] := by rw [cellAt h]; simp [hi]
    have hv := h1 v List.mem_cons_self
    have hset : (w.setCell ⟨b, off + i, none⟩ v).heap[b]? = some (.cells (cs.set (off + i) v).toArray T) := by
      simp [World.setCell, Array.getElem?_modify, h]
    obtain ⟨w', hr, e1, e2, e3, e4, e5, e6⟩ := run_storeCells_own vs (w.setCell ⟨b, off + i, none⟩ v) b off (i + 1) (cs.set (off + i) v) T hset (by simp at hn ⊢; omega) (fun x hx => h1 x (List.mem_cons_of_mem _ hx))
    refine ⟨w', ?_, e1, e2, e3, by rw [e4]; simp, fun k hk => (e5 k hk).trans (Below.heap_setCell _ _ _ _ hk), ?_⟩
    · unfold storeCells
      rw [Sem.run_bind, addAt, run_store P w _ v .plain hv, hc]
      simp only [frozenAt h, Bool.false_eq_true, if_false, Result.andThen_ok]
      exact hr
    · rw [e6]
      have : putL (cs.set (off + i) v) (off + (i + 1)) vs = putL cs (off + i) (v :: vs) := by
        unfold putL
        have e1 : (cs.set (off + i) v).take (off + (i + 1)) = cs.take (off + i) ++ [v] := by
          rw [← Nat.add_assoc, List.take_succ_eq_append_getElem (by simpa using hi)]
          rw [List.take_set_of_le (Nat.le_refl _)]
          simp
        have e2 : (cs.set (off + i) v).drop (off + (i + 1) + vs.length) = cs.drop (off + i + (v :: vs).length) := by
          rw [List.drop_set_of_lt (by omega)]
          congr 1
          simp; omega
        rw [e1, e2]
        simp
      rw [this]

theorem run_store_own {W w : World} {L L' : List Ent} {b off : Nat} {cs vs : List Value} {v : Value} {T t : TypeId} {o : Oper} {a : Act} (hO : Own W w L) (x y : Operand) (ho : o.op = .store t x y)
    (hx : a.eval x = .pointer (some ⟨b, off, none⟩)) (hy : a.eval y = v) (hv : v.cells = vs.toArray) (hat : At (box b (.cells cs.toArray T)) (box b (.cells (putL cs off vs).toArray T)) L L') (ht : (P.info? t).map (·.size) = some vs.length) (hn : off + vs.length ≤ cs.length)
    (h1 : ∀ u ∈ vs, u.oneCell' = true) : ∃ w', (execOp a.eval o).run P w = .ok .skip w' ∧ Own W w' L' := by
  have hh : w.heap[b]? = some (.cells cs.toArray T) := hO.has _ hat.mem
  obtain ⟨w', hr, e1, e2, e3, e4, e5, e6⟩ := run_storeCells_own (P := P) vs w b off 0 cs T hh hn h1
  refine ⟨w', ?_, hO.turn hat e1 e2 e3 (by omega) (fun k _ hk => e5 k (by simpa [box] using hk)) (box_ok _ _) e6 (fun b hb => .inl hb) (fun c hc => by have := List.mem_singleton.1 hc; subst this; exact lt_of_block e6)⟩
  cases hi : P.info? t with
  | none => simp [hi] at ht
  | some i =>
    have hs : i.size = vs.length := by simpa [hi] using ht
    have hs2 : vs.length = i.size := hs.symm
    simp [execOp, ho, hx, hy, Instr.storeAt, Instr.sureAddr, storeVar, sizeOf, typeInfo, hi, hv, hs2, hr]

theorem run_box_own {W w : World} {L : List Ent} {v : Value} {t : TypeId} {o : Oper} {a : Act} (hO : Own W w L) (x : Operand) (ho : o.op = .box t x) (hx : a.eval x = v) :
    ∃ w' b, (execOp a.eval o).run P w = .ok (.value (.pointer (some ⟨b, 0, none⟩))) w' ∧ Own W w' (box b (.cells v.cells t) :: L) :=
  ⟨_, _, by simp [execOp, ho, hx, Instr.box, newVar, newRow], hO.alloc (.cells v.cells t)⟩
theorem run_alloc_own {W w : World} {L : List Ent} {v : Value} {t : TypeId} {o : Oper} {a : Act} (hO : Own W w L) (ho : o.op = .alloc t) (hz : ((P.info? t).bind (·.zero)) = some v) :
    ∃ w' b, (execOp a.eval o).run P w = .ok (.value (.pointer (some ⟨b, 0, none⟩))) w' ∧ Own W w' (box b (.cells v.cells t) :: L) := by
  cases hi : P.info? t with
  | none => simp [hi] at hz
  | some i =>
    have hz' : i.zero = some v := by simpa [hi] using hz
    exact ⟨_, _, by simp [execOp, ho, Instr.alloc, zeroValue, typeInfo, hi, hz', newVar, newRow], hO.alloc (.cells v.cells t)⟩

/-- A struct of memory that was there when the call began. -/
theorem run_load_old {W w : World} {L : List Ent} {p : Addr} {l : List Value} {t : TypeId} {o : Oper} {a : Act} (hO : Own W w L) (x : Operand) (ho : o.op = .load t x)
    (hx : a.eval x = .pointer (some p)) (hp : p.block < W.heap.size) (hl : ∀ j v, l[j]? = some v → W.cell? (p.add j) = some v) (ht : aggSize P t = some l.length) :
    (execOp a.eval o).run P w = .ok (.value (.agg l.toArray)) w := by
  have hc : (loadCells p l.length).run P w = .ok l.toArray w :=
    run_loadCells_list (P := P) w p l (fun j v hv => by
      rw [hO.grown.cell (p := p.add j) (by unfold Addr.add; split <;> exact hp)]
      exact hl j v hv)
  obtain ⟨h1, h2⟩ := run_isAgg_yes ht w
  simp [execOp, ho, hx, Instr.loadAt, Instr.sureAddr, loadVar, h1, h2, hc]
theorem run_load_old1 {W w : World} {L : List Ent} {p : Addr} {v : Value} {t : TypeId} {o : Oper} {a : Act} (hO : Own W w L) (x : Operand) (ho : o.op = .load t x)
    (hx : a.eval x = .pointer (some p)) (hp : p.block < W.heap.size) (hl : W.cell? p = some v) (ht : oneCellT P t = true) :
    (execOp a.eval o).run P w = .ok (.value v) w := by
  obtain ⟨h1, h2⟩ := run_isAgg_no ht w
  have hc : w.cell? p = some v := (hO.grown.cell (p := p) hp).trans hl
  simp [execOp, ho, hx, Instr.loadAt, Instr.sureAddr, loadVar, h1, hc]

/-! What a type is: found by its number. -/
class IsAgg (P : Program) (t : TypeId) (n : outParam Nat) : Prop where out : aggSize P t = some n
class IsOne (P : Program) (t : TypeId) : Prop where out : oneCellT P t = true
class HasSize (P : Program) (t : TypeId) (n : outParam Nat) : Prop where out : (P.info? t).map (·.size) = some n
class HasZero (P : Program) (t : TypeId) (v : outParam Value) : Prop where out : (P.info? t).bind (·.zero) = some v

/-! The operations in a list of operations. -/
section
variable {ops : Array Oper} {rest : List Oper} {o : Oper} {a : Act} {W w : World} {Q : Exit → Act → World → Prop} {L L' : List Ent}

theorem wpList_value {v : Value} {w' : World} (hw : Region.wanted o (yielded ops a.tmps) = true) (hr : (execOp a.eval o).run P w = .ok (.value v) w') (h : wpList P ops Q rest (a.put o.dst v) w') : wpList P ops Q (o :: rest) a w := by
  unfold wpList
  rw [if_pos hw]
  left
  unfold Oper.wp
  rw [hr]
  exact h
theorem wpList_skipped {w' : World} (hw : Region.wanted o (yielded ops a.tmps) = true) (hr : (execOp a.eval o).run P w = .ok .skip w') (h : wpList P ops Q rest (a.put o.dst undef) w') : wpList P ops Q (o :: rest) a w := by
  unfold wpList
  rw [if_pos hw]
  left
  unfold Oper.wp
  rw [hr]
  exact h
theorem wpList_loadAll {b n : Nat} {cs : List Value} {T t : TypeId} (hO : Own W w L) {x : Operand} (ho : o.op = .load t x) (hx : a.eval x = .pointer (some ⟨b, 0, none⟩)) (hat : At (box b (.cells cs.toArray T)) (box b (.cells cs.toArray T)) L L')
    (ht : IsAgg P t n) (hn : cs.length = n) (hw : Region.wanted o (yielded ops a.tmps) = true) (h : wpList P ops Q rest (a.put o.dst (.agg cs.toArray)) w) : wpList P ops Q (o :: rest) a w :=
  wpList_value hw (run_load_agg hO x ho hx hat ht.out (by omega)) (by rw [List.drop_zero, List.take_of_length_le (by omega)]; exact h)
theorem wpList_loadPart {b off n : Nat} {cs l : List Value} {T t : TypeId} (hO : Own W w L) {x : Operand} (ho : o.op = .load t x) (hx : a.eval x = .pointer (some ⟨b, off, none⟩)) (hat : At (box b (.cells cs.toArray T)) (box b (.cells cs.toArray T)) L L')
    (ht : IsAgg P t n) (hn : off + n ≤ cs.length) (hl : (cs.drop off).take n = l) (hw : Region.wanted o (yielded ops a.tmps) = true) (h : wpList P ops Q rest (a.put o.dst (.agg l.toArray)) w) : wpList P ops Q (o :: rest) a w :=
  wpList_value hw (run_load_agg hO x ho hx hat ht.out hn) (by rw [hl]; exact h)
theorem wpList_loadOne {b off : Nat} {cs : List Value} {v : Value} {T t : TypeId} (hO : Own W w L) {x : Operand} (ho : o.op = .load t x) (hx : a.eval x = .pointer (some ⟨b, off, none⟩)) (hat : At (box b (.cells cs.toArray T)) (box b (.cells cs.toArray T)) L L')
    (hv : cs[off]? = some v) (ht : IsOne P t) (hw : Region.wanted o (yielded ops a.tmps) = true) (h : wpList P ops Q rest (a.put o.dst v) w) : wpList P ops Q (o :: rest) a w :=
  wpList_value hw (run_load_one hO x ho hx hat ht.out hv) h
theorem wpList_loadOld {p : Addr} {l : List Value} {t : TypeId} (hO : Own W w L) {x : Operand} (ho : o.op = .load t x) (hx : a.eval x = .pointer (some p)) (hp : p.block < W.heap.size) (hl : ∀ j v, l[j]? = some v → W.cell? (p.add j) = some v)
    (ht : IsAgg P t l.length) (hw : Region.wanted o (yielded ops a.tmps) = true) (h : wpList P ops Q rest (a.put o.dst (.agg l.toArray)) w) : wpList P ops Q (o :: rest) a w :=
  wpList_value hw (run_load_old hO x ho hx hp hl ht.out) h
theorem wpList_loadOld1 {p : Addr} {v : Value} {t : TypeId} (hO : Own W w L) {x : Operand} (ho : o.op = .load t x) (hx : a.eval x = .pointer (some p)) (hp : p.block < W.heap.size) (hl : W.cell? p = some v)
    (ht : IsOne P t) (hw : Region.wanted o (yielded ops a.tmps) = true) (h : wpList P ops Q rest (a.put o.dst v) w) : wpList P ops Q (o :: rest) a w :=
  wpList_value hw (run_load_old1 hO x ho hx hp hl ht.out) h
/-- A struct, or an array, stored into all of a row. -/
theorem wpList_storeAll {b n : Nat} {cs vs : List Value} {T t : TypeId} (hO : Own W w L) {x y : Operand} (ho : o.op = .store t x y) (hx : a.eval x = .pointer (some ⟨b, 0, none⟩)) (hy : a.eval y = .agg vs.toArray)
    (hat : At (box b (.cells cs.toArray T)) (box b (.cells vs.toArray T)) L L') (ht : HasSize P t n) (hn : cs.length = n) (hn' : vs.length = n) (h1 : (vs.all fun u => u.oneCell') = true)
    (hw : Region.wanted o (yielded ops a.tmps) = true) (h : ∀ w', Own W w' L' → wpList P ops Q rest (a.put o.dst undef) w') : wpList P ops Q (o :: rest) a w := by
  have hp : putL cs 0 vs = vs := by unfold putL; simp; omega
  obtain ⟨w', hr, hO'⟩ := run_store_own (P := P) (L' := L') (vs := vs) hO x y ho hx hy rfl (by rw [hp]; exact hat) (by rw [ht.out, hn']) (by omega) (List.all_eq_true.1 h1)
  exact wpList_skipped hw hr (h w' hO')
theorem wpList_storePart {b off n : Nat} {cs cs' vs : List Value} {v : Value} {T t : TypeId} (hO : Own W w L) {x y : Operand} (ho : o.op = .store t x y) (hx : a.eval x = .pointer (some ⟨b, off, none⟩)) (hy : a.eval y = v) (hv : v.cells = vs.toArray)
    (hat : At (box b (.cells cs.toArray T)) (box b (.cells cs'.toArray T)) L L') (ht : HasSize P t n) (hn' : vs.length = n) (hn : off + n ≤ cs.length) (hp : putL cs off vs = cs') (h1 : (vs.all fun u => u.oneCell') = true)
    (hw : Region.wanted o (yielded ops a.tmps) = true) (h : ∀ w', Own W w' L' → wpList P ops Q rest (a.put o.dst undef) w') : wpList P ops Q (o :: rest) a w := by
  obtain ⟨w', hr, hO'⟩ := run_store_own (P := P) (L' := L') (vs := vs) hO x y ho hx hy hv (by rw [hp]; exact hat) (by rw [ht.out, hn']) (by omega) (List.all_eq_true.1 h1)
  exact wpList_skipped hw hr (h w' hO')
theorem wpList_storeOne {b off : Nat} {cs cs' : List Value} {v : Value} {T t : TypeId} (hO : Own W w L) {x y : Operand} (ho : o.op = .store t x y) (hx : a.eval x = .pointer (some ⟨b, off, none⟩)) (hy : a.eval y = v) (hv : v.oneCell' = true)
    (hat : At (box b (.cells cs.toArray T)) (box b (.cells cs'.toArray T)) L L') (ht : HasSize P t 1) (hn : off < cs.length) (hp : cs.set off v = cs')
    (hw : Region.wanted o (yielded ops a.tmps) = true) (h : ∀ w', Own W w' L' → wpList P ops Q rest (a.put o.dst undef) w') : wpList P ops Q (o :: rest) a w := by
  have hp' : putL cs off [v] = cs' := by
    rw [← hp]; unfold putL
    rw [List.set_eq_take_append_cons_drop, if_pos hn]; simp
  obtain ⟨w', hr, hO'⟩ := run_store_own (P := P) (L' := L') (vs := [v]) hO x y ho hx hy (by cases v <;> first | rfl | cases hv) (by rw [hp']; exact hat) (by rw [ht.out]; rfl) (by simp; omega) (by simpa using hv)
  exact wpList_skipped hw hr (h w' hO')
theorem wpList_box {v : Value} {t : TypeId} (n : Nat) (hO : Own W w L) (_hn : L.length = n) {x : Operand} (ho : o.op = .box t x) (hx : a.eval x = v) {cs : Array Value} (hc : v.cells = cs)
    (hw : Region.wanted o (yielded ops a.tmps) = true) (h : ∀ b w', Own W w' (box b (.cells cs t) :: L) → wpList P ops Q rest (a.put o.dst (.pointer (some ⟨b, 0, none⟩))) w') : wpList P ops Q (o :: rest) a w := by
  obtain ⟨w', b, hr, hO'⟩ := run_box_own (P := P) hO x ho hx
  exact wpList_value hw hr (h b w' (by rw [← hc]; exact hO'))
theorem wpList_boxAgg {cs : Array Value} {t : TypeId} (n : Nat) (hO : Own W w L) (hn : L.length = n) {x : Operand} (ho : o.op = .box t x) (hx : a.eval x = .agg cs)
    (hw : Region.wanted o (yielded ops a.tmps) = true) (h : ∀ b w', Own W w' (box b (.cells cs t) :: L) → wpList P ops Q rest (a.put o.dst (.pointer (some ⟨b, 0, none⟩))) w') : wpList P ops Q (o :: rest) a w :=
  wpList_box n hO hn ho hx rfl hw h
theorem wpList_boxOne {v : Value} {t : TypeId} (n : Nat) (hO : Own W w L) (hn : L.length = n) {x : Operand} (ho : o.op = .box t x) (hx : a.eval x = v) (hv : v.oneCell' = true)
    (hw : Region.wanted o (yielded ops a.tmps) = true) (h : ∀ b w', Own W w' (box b (.cells #[v] t) :: L) → wpList P ops Q rest (a.put o.dst (.pointer (some ⟨b, 0, none⟩))) w') : wpList P ops Q (o :: rest) a w :=
  wpList_box n hO hn ho hx (by cases v <;> first | rfl | cases hv) hw h
theorem wpList_allocAgg {cs : Array Value} {t : TypeId} (n : Nat) (hO : Own W w L) (_hn : L.length = n) (ho : o.op = .alloc t) (hz : HasZero P t (.agg cs))
    (hw : Region.wanted o (yielded ops a.tmps) = true) (h : ∀ b w', Own W w' (box b (.cells cs t) :: L) → wpList P ops Q rest (a.put o.dst (.pointer (some ⟨b, 0, none⟩))) w') : wpList P ops Q (o :: rest) a w := by
  obtain ⟨w', b, hr, hO'⟩ := run_alloc_own (P := P) hO ho hz.out
  exact wpList_value hw hr (h b w' hO')
theorem wpList_alloc {v : Value} {t : TypeId} (n : Nat) (hO : Own W w L) (_hn : L.length = n) (ho : o.op = .alloc t) (hz : HasZero P t v) {cs : Array Value} (hc : v.cells = cs)
    (hw : Region.wanted o (yielded ops a.tmps) = true) (h : ∀ b w', Own W w' (box b (.cells cs t) :: L) → wpList P ops Q rest (a.put o.dst (.pointer (some ⟨b, 0, none⟩))) w') : wpList P ops Q (o :: rest) a w := by
  obtain ⟨w', b, hr, hO'⟩ := run_alloc_own (P := P) hO ho hz.out
  exact wpList_value hw hr (h b w' (by rw [← hc]; exact hO'))
end


/-! Append. -/
class IsSlice (P : Program) (t : TypeId) (e : outParam TypeId) : Prop where out : P.underlying t = some (.slice e)
class IsElem (P : Program) (e : TypeId) (k : outParam Nat) (bytes : outParam Nat) : Prop where
  out : ((P.info? e).bind fun i => i.zero.map fun z => (z.cells.size, i.size, i.bytes)) = some (k, k, bytes)
  pos : 0 < k
theorem run_append_row {w : World} {t ty e k bytes m c : Nat} {v : Value} {A N : List (List Value)} {p : Addr} (ht : P.underlying t = some (.slice e)) (he : IsElem P e k bytes) (hown : w.ownsRow 0 e k v A.length A.flatten)
    (hm : N.length = m) (hN : ∀ l ∈ N, l.length = k) (hnews : ∀ j u, N.flatten[j]? = some u → w.cell? (p.add j) = some u) (h1 : ∀ u ∈ N.flatten, u.oneCell' = true) (h63 : A.length + m ≤ maxLen) (hbytes : (A.length + m) * bytes ≤ 140737488355328) :
    ∃ v' w', (Builtin.append_ #[t, t] ty #[v, .slice (some p) m c]).run P w = .ok v' w' ∧ w'.ownsRow 0 e k v' (A ++ N).length (A ++ N).flatten ∧ w.grownBy w' v.ownBlock ∧ (∀ b, v'.ownBlock = some b → v.ownBlock = some b ∨ w.heap.size ≤ b) ∧
      (v' = .slice none 0 0 ↔ v = .slice none 0 0 ∧ m = 0) := by
  have ho := he.out
  have hp := he.pos
  cases hi : P.info? e with
  | none => simp [hi] at ho
  | some i =>
    cases hz : i.zero with
    | none => simp [hi, hz] at ho
    | some z =>
      simp only [hi, hz, Option.bind_some, Option.map_some, Option.some.injEq, Prod.mk.injEq] at ho
      obtain ⟨hzs, hsize, hby⟩ := ho
      have hl : N.flatten.length = m * k := by rw [flatL_len hN, hm]
      obtain ⟨v', w', hr, h2, h3, h4⟩ := run_append_own (P := P) w 0 t ty e i z k bytes ht hi hz hsize hby hzs hp v A.length A.flatten hown p m c N.flatten hl hnews h1 h63 hbytes (Nat.zero_le _)
      refine ⟨v', w', hr, by rw [List.length_append, List.flatten_append, hm]; exact h2, h3, ?_, h4⟩
      rcases hown.2 with ⟨rfl, h0⟩ | ⟨g, cap, cur, rfl, hbg, hg, hnc, hcm, hcs, htake⟩
      · obtain ⟨v2, w2, hr2, h5, h6, h7⟩ := run_append_own (P := P) w w.heap.size t ty e i z k bytes ht hi hz hsize hby hzs hp (.slice none 0 0) A.length A.flatten ⟨hown.1, .inl ⟨rfl, h0⟩⟩ p m c N.flatten hl hnews h1 h63 hbytes (Nat.le_refl _)
        rw [hr] at hr2
        cases hr2
        exact fun b hb => .inr (h5.lt b hb).1
      · subst hsize
        have hsmall : A.length + m ≤ 9223372036854775807 := by simp only [maxLen] at h63; omega
        by_cases hroom : A.length + m ≤ cap
        · have hfit : A.length * i.size + N.flatten.length ≤ cur.size := by rw [hl, hcs, ← Nat.add_mul]; exact Nat.mul_le_mul_right _ hroom
          have hr2 := run_append_room (P := P) w t ty e i ht hi g A.length cap cur hg p m c N.flatten hl hnews h1 hroom hfit
          rw [hr] at hr2
          cases hr2
          exact fun b hb => .inl hb
        · have holds : ∀ j u, A.flatten[j]? = some u → w.cell? ((⟨g, 0, none⟩ : Addr).add j) = some u := hown.cells (g := g) rfl
          subst hby
          have hr2 := run_append_grow (P := P) w t ty e i z ht hi hz ⟨g, 0, none⟩ A.length cap A.flatten hown.1 holds p m c N.flatten hl hnews (by omega) (by omega) (growslice_fits (by omega) hbytes)
          rw [hr] at hr2
          cases hr2
          exact fun b hb => .inr (by simp [Value.ownBlock] at hb; omega)
theorem blkOf_own {v : Value} {b : Nat} : b ∈ blkOf v ↔ v.ownBlock = some b := by
  cases v <;> simp [blkOf, Value.ownBlock]
  rename_i a _ _
  cases a <;> simp [eq_comm]
section
variable {ops : Array Oper} {rest : List Oper} {o : Oper} {a : Act} {W w : World} {Q : Exit → Act → World → Prop} {L L' : List Ent}
/-- append of structs that lie in memory onto a row. -/
theorem wpList_append {s x : Operand} {t e k bytes m c : Nat} {v : Value} {A N : List (List Value)} {p : Addr} {L' : Value → List Ent} (hO : Own W w L) (ho : o.op = .call { callee := .builtin .append, args := #[s, x], argTypes := #[t, t] })
    (ht : IsSlice P t e) (he : IsElem P e k bytes) (hs : a.eval s = v) (hx : a.eval x = .slice (some p) m c) (hat : ∀ v', At (row e k v A) (row e k v' (A ++ N)) L (L' v')) (hm : N.length = m) (hN : ∀ l ∈ N, l.length = k)
    (hnews : ∀ j u, N.flatten[j]? = some u → w.cell? (p.add j) = some u) (h1 : ∀ u ∈ N.flatten, u.oneCell' = true) (h63 : A.length + m ≤ maxLen) (hbytes : (A.length + m) * bytes ≤ 140737488355328)
    (hw : Region.wanted o (yielded ops a.tmps) = true) (h : ∀ v' w', Own W w' (L' v') → (v' = .slice none 0 0 ↔ v = .slice none 0 0 ∧ m = 0) → wpList P ops Q rest (a.put o.dst v') w') : wpList P ops Q (o :: rest) a w := by
  obtain ⟨v', w', hr, h2, h3, h4, h5⟩ := run_append_row (P := P) (ty := o.type) (c := c) ht.out he (hO.has _ (hat v).mem) hm hN hnews h1 h63 hbytes
  have hrun : (execOp a.eval o).run P w = .ok (.value v') w' := by
    unfold execOp
    simp only [ho, resolve, invoke, builtin, Sem.run_bind, Sem.run_pure, Result.andThen_ok, List.map_toArray, List.map_cons, List.map_nil, hs, hx, hr]
  refine wpList_value hw hrun (h v' w' ?_ h5)
  refine hO.turn (hat v') h3.os h3.tape h3.output h3.size (fun b hb hnb => h3.block b hb (fun e => hnb (blkOf_own.2 e.symm))) (row_ok _ _ _ _) h2 (fun b hb => ?_) (row_lt _ _ _ _ w' h2)
  rcases h4 b (blkOf_own.1 hb) with h | h
  · exact .inl (blkOf_own.2 h)
  · exact .inr h
/-- append of one struct, just laid in a block of its own. -/
theorem wpList_push1 {s x : Operand} {t e k bytes b : Nat} {v : Value} {A : List (List Value)} {l : List Value} {L' : Value → List Ent} (hO : Own W w (box b (.cells l.toArray e) :: L)) (ho : o.op = .call { callee := .builtin .append, args := #[s, x], argTypes := #[t, t] })
    (ht : IsSlice P t e) (he : IsElem P e k bytes) (hs : a.eval s = v) (hx : a.eval x = .slice (some ⟨b, 0, none⟩) 1 1) (hat : ∀ v', At (row e k v A) (row e k v' (A ++ [l])) L (L' v')) (hl : l.length = k)
    (h1 : (l.all fun u => u.oneCell') = true) (h63 : A.length + 1 ≤ 1000000) (hb : bytes ≤ 1000000)
    (hw : Region.wanted o (yielded ops a.tmps) = true) (h : ∀ v' w', Own W w' (L' v') → (∃ p n c, v' = .slice p n c) → wpList P ops Q rest (a.put o.dst v') w') : wpList P ops Q (o :: rest) a w := by
  have hbox : w.heap[b]? = some (.cells l.toArray e) := hO.has (box b (.cells l.toArray e)) List.mem_cons_self
  refine wpList_append (L' := fun v' => box b (.cells l.toArray e) :: L' v') (A := A) (N := [l]) hO ho ht he hs hx (fun v' => .tail _ _ _ (hat v')) rfl (by simpa using hl) (fun j u hu => ?_) (fun u hu => ?_) (by unfold maxLen; omega) ?_ hw (fun v' w' h2 h3 => ?_)
  · rw [addAt, Nat.zero_add, cellAt hbox]; simpa using hu
  · simp only [List.flatten_cons, List.flatten_nil, List.append_nil] at hu
    exact List.all_eq_true.1 h1 u hu
  · have := Nat.mul_le_mul h63 hb
    omega
  · refine h v' w' h2.tail ?_
    have hF : w'.ownsRow 0 e k v' (A ++ [l]).length (A ++ [l]).flatten := by
      exact h2.tail.has _ (hat v').memY
    rcases hF.2 with ⟨rfl, _⟩ | ⟨g, cap, cur, rfl, _⟩
    · exact ⟨_, _, _, rfl⟩
    · exact ⟨_, _, _, rfl⟩
/-- A slice literal. -/
theorem wpList_lit {t e n k : Nat} {parts : Array (Nat × Operand)} {cs z : Array Value} (hO : Own W w L) (ho : o.op = .buildSlice t n parts) (ht : IsSlice P t e) (hsz : HasSize P e k) (hz : ((P.info? e).bind (·.zero)).map (·.cells) = some z) (hn : n * k ≤ 1000)
    (hf : Instr.fill (fun i => some (i * k, k)) ((Array.range (n * k)).map (fun j => (if n * k = 0 then #[] else z)[j % (if n * k = 0 then #[] else z).size]!)) (parts.map fun (i, x) => (i, a.eval x)).toList = some cs)
    (hw : Region.wanted o (yielded ops a.tmps) = true) (h : ∀ b w', Own W w' (box b (.cells cs e) :: L) → wpList P ops Q rest (a.put o.dst (.slice (some ⟨b, 0, none⟩) n n)) w') : wpList P ops Q (o :: rest) a w := by
  have h1 := hsz.out
  cases hi : P.info? e with
  | none => simp [hi] at h1
  | some i =>
    have hs : i.size = k := by simpa [hi] using h1
    cases hzz : i.zero with
    | none => simp [hi, hzz] at hz
    | some zv =>
      have hzc : zv.cells = z := by simpa [hi, hzz] using hz
      have hlt : ¬ (16777216 < n * k) := by omega
      have hrun : (execOp a.eval o).run P w = .ok (.value (.slice (some ⟨w.heap.size, 0, none⟩) n n)) (w.alloc (.cells cs e)) := by
        unfold execOp
        simp only [ho, Instr.buildSlice]
        by_cases h0 : n * k = 0
        · simp only [h0, if_true] at hf
          simp at hf
          simp [underlying, ht.out, sizeOf, typeInfo, hi, hs, h0, newRow, hf]
        · simp only [h0, if_false] at hf
          simp at hf
          simp [underlying, ht.out, sizeOf, typeInfo, hi, hs, h0, zeroValue, hzz, hzc, hlt, newRow, hf]
      exact wpList_value hw hrun (h _ _ (hO.alloc _))
end

/-! Regions that draw their order. -/
noncomputable def lot (W : World) (L : List Ent) (w x : World) : World := open Classical in if Own W x L then x else w
theorem own_lot {W w : World} {L : List Ent} (h : Own W w L) (x : World) : Own W (lot W L w x) L := by
  unfold lot; split
  · assumption
  · exact h
theorem lot_of {W x : World} {L : List Ent} (w : World) (h : Own W x L) : x = lot W L w x := by unfold lot; rw [if_pos h]
/-- The worlds in which the blocks L are the call's own: those that F yields. -/
structure Fam (W : World) (L : List Ent) (F : World → World) : Prop where
  own : ∀ x, Own W (F x) L
  all : ∀ w', Own W w' L → ∃ x, w' = F x
theorem region_own {Q : Exit → Act → World → Prop} {W w : World} {L : List Ent} {id : Nat} {a : Act} {l : List Oper} (hO : Own W w L) (hm : P.follows .mixedOrders = true) (hB : Region.lexB .any l.toArray = true)
    (h : ∀ F : World → World, Fam W L F → wpQuiet P l.toArray (fun w' => ∃ x, w' = F x) (fun a' => ∀ x, Q .normal a' (F x)) l a) : (Code.region id l.toArray true).wp P Q a w := by
  have hF : Fam W L (lot W L w) := ⟨own_lot hO, fun w' hw' => ⟨w', lot_of w hw'⟩⟩
  refine wp_region_quiet (C := fun w' => ∃ x, w' = lot W L w x) hm hB (hF.all _ hO.drew) ?_
  have h' := h _ hF
  have e : (fun a' => ∀ x, Q .normal a' (lot W L w x)) = (fun a' => ∀ w', (∃ x, w' = lot W L w x) → Q .normal a' w') := by
    funext a'
    exact propext ⟨fun hh w' ⟨x, hx⟩ => hx ▸ hh x, fun hh x => hh _ ⟨x, rfl⟩⟩
  rw [e] at h'
  simpa using h'
theorem calls_fam {W x : World} {L : List Ent} {F : World → World} {f : FuncId} {args : Array Value} {v : Value} (hF : Fam W L F)
    (h : Calls P f args (F x) fun e w' => e = .returned v ∧ Below (F x).heap.size (F x) w') :
    Calls P f args (F x) fun e w'' => e = .returned v ∧ ∃ y, w'' = F y :=
  h.mono fun _ _ ⟨he, hw⟩ => ⟨he, hF.all _ ((hF.own x).call hw)⟩
section
variable {ops : Array Oper} {rest : List Oper} {o : Oper} {a : Act} {W : World} {F : World → World} {Q : Act → Prop} {L L' : List Ent}
theorem wpQuiet_value {v : Value} {C : World → Prop} (hw : Region.wanted o (yielded ops a.tmps) = true) (hr : ∀ w', C w' → (execOp a.eval o).run P w' = .ok (.value v) w') (h : wpQuiet P ops C Q rest (a.put o.dst v)) :
    wpQuiet P ops C Q (o :: rest) a := by
  unfold wpQuiet
  rw [if_pos hw]
  refine ⟨v, fun w' hw' => ?_, h⟩
  unfold Oper.quietAt
  rw [hr w' hw']
  exact ⟨rfl, rfl⟩
theorem wpQuiet_loadAll {b n : Nat} {cs : List Value} {T t : TypeId} (hF : Fam W L F) {x : Operand} (ho : o.op = .load t x) (hx : a.eval x = .pointer (some ⟨b, 0, none⟩)) (hat : At (box b (.cells cs.toArray T)) (box b (.cells cs.toArray T)) L L')
    (ht : IsAgg P t n) (hn : cs.length = n) (hw : Region.wanted o (yielded ops a.tmps) = true) (h : wpQuiet P ops (fun w' => ∃ x, w' = F x) Q rest (a.put o.dst (.agg cs.toArray))) : wpQuiet P ops (fun w' => ∃ x, w' = F x) Q (o :: rest) a :=
  wpQuiet_value (v := .agg cs.toArray) hw (fun w' ⟨y, hy⟩ => by
    rw [run_load_agg (hy ▸ hF.own y) x ho hx hat ht.out (by omega), List.drop_zero, List.take_of_length_le (by omega)]) h
theorem wpQuiet_loadPart {b off n : Nat} {cs l : List Value} {T t : TypeId} (hF : Fam W L F) {x : Operand} (ho : o.op = .load t x) (hx : a.eval x = .pointer (some ⟨b, off, none⟩)) (hat : At (box b (.cells cs.toArray T)) (box b (.cells cs.toArray T)) L L')
    (ht : IsAgg P t n) (hn : off + n ≤ cs.length) (hl : (cs.drop off).take n = l) (hw : Region.wanted o (yielded ops a.tmps) = true) (h : wpQuiet P ops (fun w' => ∃ x, w' = F x) Q rest (a.put o.dst (.agg l.toArray))) :
    wpQuiet P ops (fun w' => ∃ x, w' = F x) Q (o :: rest) a :=
  wpQuiet_value (v := .agg l.toArray) hw (fun _ ⟨y, hy⟩ => by rw [run_load_agg (hy ▸ hF.own y) x ho hx hat ht.out hn, hl]) h
theorem wpQuiet_loadOne {b off : Nat} {cs : List Value} {v : Value} {T t : TypeId} (hF : Fam W L F) {x : Operand} (ho : o.op = .load t x) (hx : a.eval x = .pointer (some ⟨b, off, none⟩)) (hat : At (box b (.cells cs.toArray T)) (box b (.cells cs.toArray T)) L L')
    (hv : cs[off]? = some v) (ht : IsOne P t) (hw : Region.wanted o (yielded ops a.tmps) = true) (h : wpQuiet P ops (fun w' => ∃ x, w' = F x) Q rest (a.put o.dst v)) : wpQuiet P ops (fun w' => ∃ x, w' = F x) Q (o :: rest) a :=
  wpQuiet_value (v := v) hw (fun _ ⟨y, hy⟩ => run_load_one (hy ▸ hF.own y) x ho hx hat ht.out hv) h
theorem wpQuiet_loadOld {p : Addr} {l : List Value} {t : TypeId} (hF : Fam W L F) {x : Operand} (ho : o.op = .load t x) (hx : a.eval x = .pointer (some p)) (hp : p.block < W.heap.size) (hl : ∀ j v, l[j]? = some v → W.cell? (p.add j) = some v)
    (ht : IsAgg P t l.length) (hw : Region.wanted o (yielded ops a.tmps) = true) (h : wpQuiet P ops (fun w' => ∃ x, w' = F x) Q rest (a.put o.dst (.agg l.toArray))) : wpQuiet P ops (fun w' => ∃ x, w' = F x) Q (o :: rest) a :=
  wpQuiet_value (v := .agg l.toArray) hw (fun _ ⟨y, hy⟩ => run_load_old (hy ▸ hF.own y) x ho hx hp hl ht.out) h
theorem wpQuiet_loadOld1 {p : Addr} {v : Value} {t : TypeId} (hF : Fam W L F) {x : Operand} (ho : o.op = .load t x) (hx : a.eval x = .pointer (some p)) (hp : p.block < W.heap.size) (hl : W.cell? p = some v)
    (ht : IsOne P t) (hw : Region.wanted o (yielded ops a.tmps) = true) (h : wpQuiet P ops (fun w' => ∃ x, w' = F x) Q rest (a.put o.dst v)) : wpQuiet P ops (fun w' => ∃ x, w' = F x) Q (o :: rest) a :=
  wpQuiet_value (v := v) hw (fun _ ⟨y, hy⟩ => run_load_old1 (hy ▸ hF.own y) x ho hx hp hl ht.out) h
end
end
end Own
end Go

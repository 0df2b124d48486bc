/-
  Slices of flat structs, as lists of their cells: read, copied, appended to; conditions: none.
-/
import Derived.Test.YthiokpjakiidjaaBase
import Derived.Laws.AppendOwnNone
import Derived.Deep.Slices
import Derived.ChangeSame
namespace Go.Own
open Go.RowKit

theorem lAdd (a : Addr) (m k : Nat) : a.add (m + k) = (a.add m).add k := by
  unfold Addr.add
  by_cases hm : m = 0
  · subst hm; simp
  · by_cases hk : k = 0
    · subst hk; simp [hm]
    · simp [hm, hk, Nat.add_assoc]
theorem lAdd1 (c : Addr) (k : Nat) : c.add (k + 1) = ⟨c.block, c.off + (k + 1), none⟩ := by simp [Addr.add]
theorem lBlock (a : Addr) (n : Nat) : (a.add n).block = a.block := by unfold Addr.add; split <;> rfl

/-- Structs of k cells lie in memory, one behind the other, from a on. -/
structure LAt (w : World) (a : Addr) (k : Nat) (L : List (List Value)) : Prop where
  lt : a.block < w.heap.size
  c : ∀ i (h : i < L.length) j v, L[i][j]? = some v → w.cell? ((a.add (i * k)).add j) = some v
theorem LAt.below {B k : Nat} {w w' : World} {a : Addr} {L : List (List Value)} (h : LAt w a k L) (hb : Below B w w') (hB : a.block < B) : LAt w' a k L := by
  have hs := hb.size
  have hl := h.lt
  refine ⟨by omega, fun i hi j v hv => ?_⟩
  rw [← h.c i hi j v hv]
  exact World.cell?_of_block (w := w) (hb.block _ (by rw [lBlock, lBlock]; exact hB))
theorem LAt.lt' {w : World} {a : Addr} {k : Nat} {L : List (List Value)} (h : LAt w a k L) (n : Nat) : (a.add n).block < w.heap.size := by rw [lBlock]; exact h.lt
theorem LAt.c0 {w : World} {a : Addr} {k : Nat} {L : List (List Value)} (h : LAt w a k L) (i : Nat) (hi : i < L.length) (v : Value) (hv : L[i][0]? = some v) : w.cell? (a.add (i * k)) = some v := by
  have := h.c i hi 0 v hv
  rwa [show ∀ c : Addr, c.add 0 = c from fun c => by simp [Addr.add]] at this
theorem LAt.cj {w : World} {a : Addr} {k : Nat} {L : List (List Value)} (h : LAt w a k L) (i : Nat) (hi : i < L.length) (j : Nat) (v : Value) (hv : L[i][j + 1]? = some v) : w.cell? ⟨(a.add (i * k)).block, (a.add (i * k)).off + (j + 1), none⟩ = some v := by
  have := h.c i hi (j + 1) v hv
  rwa [lAdd1] at this

/-- A slice of structs: none, or some that lie in memory. -/
inductive IsL (w : World) (k : Nat) : Value → List (List Value) → Prop
  | none (sp : Option Addr) (sc : Nat) (hn : sp = Option.none → sc = 0) : IsL w k (.slice sp 0 sc) []
  | some (a : Addr) (cap : Nat) (L : List (List Value)) (hlen : L.length ≤ cap) (hcap : cap ≤ maxLen) (h0 : 0 < L.length) (h : LAt w a k L) : IsL w k (.slice (some a) L.length cap) L
def VL (v : Value) (B : Nat) : Prop := ∀ a n c, v = .slice (some a) n c → 0 < n → a.block < B
theorem IsL.lt {w : World} {k : Nat} {v : Value} {L : List (List Value)} (h : IsL w k v L) : VL v w.heap.size := by
  intro a n c e hn
  cases h with
  | none sp sc hn' => cases e; omega
  | some a' cap L hlen hcap h0 h => cases e; exact h.lt
theorem IsL.below {B k : Nat} {w w' : World} {v : Value} {L : List (List Value)} (h : IsL w k v L) (hb : Below B w w') (hB : VL v B) : IsL w' k v L := by
  cases h with
  | none sp sc hn => exact .none sp sc hn
  | some a cap L hlen hcap h0 h => exact .some a cap L hlen hcap h0 (h.below hb (hB a _ _ rfl h0))
theorem IsL.slice {w : World} {k : Nat} {v : Value} {L : List (List Value)} (h : IsL w k v L) : ∃ p c, v = .slice p L.length c ∧ L.length ≤ maxLen := by
  cases h with
  | none sp sc hn => exact ⟨_, _, rfl, by simp⟩
  | some a cap L hlen hcap h0 h => exact ⟨_, _, rfl, by omega⟩
theorem IsL.at {w : World} {k : Nat} {v : Value} {L : List (List Value)} (h : IsL w k v L) (hn : 0 < L.length) : ∃ a cap, v = .slice (Option.some a) L.length cap ∧ L.length ≤ cap ∧ cap ≤ maxLen ∧ LAt w a k L := by
  cases h with
  | none sp sc _ => simp at hn
  | some a cap L hlen hcap h0 h => exact ⟨a, cap, rfl, hlen, hcap, h⟩

theorem flatL_len {k : Nat} : ∀ {L : List (List Value)}, (∀ l ∈ L, l.length = k) → L.flatten.length = L.length * k
  | [], _ => by simp
  | l :: L, h => by
    rw [List.flatten_cons, List.length_append, flatL_len (fun x hx => h x (List.mem_cons_of_mem _ hx)), h l List.mem_cons_self, List.length_cons, Nat.add_mul]
    omega
theorem flatL_get {k : Nat} : ∀ {L : List (List Value)}, (∀ l ∈ L, l.length = k) → ∀ i (hi : i < L.length) j, j < k → L.flatten[i * k + j]? = L[i][j]?
  | l :: L, h, 0, _, j, hj => by
    have hl := h l List.mem_cons_self
    rw [List.flatten_cons, Nat.zero_mul, Nat.zero_add, List.getElem?_append_left (by omega)]
    rfl
  | l :: L, h, i + 1, hi, j, hj => by
    have hl := h l List.mem_cons_self
    have hk : (i + 1) * k = i * k + k := Nat.succ_mul i k
    rw [List.flatten_cons, List.getElem?_append_right (by omega), hl, show (i + 1) * k + j - k = i * k + j by omega]
    exact flatL_get (fun x hx => h x (List.mem_cons_of_mem _ hx)) i (by simpa using hi) j hj
/-- What a slice of the call's own reads as. -/
theorem isL_of_owns {w : World} {base k : Nat} {e : TypeId} {v : Value} {L : List (List Value)} (hL : ∀ l ∈ L, l.length = k) (h : w.ownsRow base e k v L.length L.flatten) : IsL w k v L := by
  have hc := @World.ownsRow.cells w base e k v L.length L.flatten h
  rcases h.2 with ⟨rfl, h0⟩ | ⟨g, cap, cur, rfl, _, hh, h1, h2, _⟩
  · have : L = [] := by simpa using h0
    subst this
    exact .none _ _ (fun _ => rfl)
  · by_cases hz : L = []
    · subst hz; exact .none _ _ (fun e => by cases e)
    refine .some ⟨g, 0, none⟩ cap L h1 h2 (by cases L <;> simp_all) ⟨lt_of_block hh, fun i hi j u hu => ?_⟩
    have hj : j < k := by
      have := (List.getElem?_eq_some_iff.1 hu).1
      rwa [hL _ (List.getElem_mem hi)] at this
    have := hc rfl (i * k + j) u (by rw [flatL_get hL i hi j hj]; exact hu)
    rwa [lAdd] at this
theorem LAt.flat {w : World} {a : Addr} {k : Nat} {L : List (List Value)} (h : LAt w a k L) (hL : ∀ l ∈ L, l.length = k) (hk : 0 < k) : ∀ j u, L.flatten[j]? = some u → w.cell? (a.add j) = some u := by
  intro j u hu
  have hj : j < L.length * k := by
    have := (List.getElem?_eq_some_iff.1 hu).1
    rwa [flatL_len hL] at this
  have hi : j / k < L.length := Nat.div_lt_of_lt_mul (by rwa [Nat.mul_comm] at hj)
  have e : j = j / k * k + j % k := by rw [Nat.mul_comm]; exact (Nat.div_add_mod j k).symm
  rw [e, flatL_get hL (j / k) hi (j % k) (Nat.mod_lt _ hk)] at hu
  rw [e, lAdd]
  exact h.c _ hi _ _ hu
/-- append([]T(nil), l...): a copy. -/
theorem wpList_copyL {P : Program} {ops : Array Oper} {rest : List Oper} {o : Oper} {a : Act} {w : World} {Q : Exit → Act → World → Prop} {v z : Value} {L : List (List Value)} {t e : TypeId} {k bytes : Nat}
    (ht : P.underlying t = some (.slice e)) (info : (P.info? e).map (fun i => (i.zero, i.size, i.bytes)) = some (some z, k, bytes)) (hzs : z.cells.size = k) (hk : 0 < k)
    (hgd : o.guard = none) (x : Operand) (ho : o.op = .call { callee := .builtin .append, args := #[.const (.slice none 0 0), x], argTypes := #[t, t] }) (hx : a.eval x = v) (hv : IsL w k v L)
    (hL : ∀ l ∈ L, l.length = k) (h1 : ∀ l ∈ L, ∀ u ∈ l, u.oneCell' = true) (hl : L.length ≤ 1000000) (hby : bytes ≤ 1000000)
    (h : ∀ v' w', w'.ownsRow w.heap.size e k v' L.length L.flatten → Below w.heap.size w w' → wpList P ops Q rest (a.put o.dst v') w') : wpList P ops Q (o :: rest) a w := by
  cases hi : P.info? e with
  | none => rw [hi] at info; cases info
  | some i0 =>
  rw [hi] at info
  simp only [Option.map_some, Option.some.injEq, Prod.mk.injEq] at info
  obtain ⟨hz0, hz1, hz2⟩ := info
  have hbb : (0 + L.length) * bytes ≤ 140737488355328 := by
    have := Nat.mul_le_mul hl hby
    rw [Nat.zero_add]
    omega
  cases hv with
  | none sp sc hn =>
    cases sp with
    | some ad =>
      refine wpList_append_own w hgd _ x t ho w.heap.size e i0 _ k bytes ht hi hz0 hz1 hz2 hzs hk (.slice none 0 0) 0 [] rfl (World.ownsRow_nil _ _ _ _) ad 0 sc [] hx (by simp) (fun j u hu => by simp at hu) (fun u hu => by simp at hu) (by unfold maxLen; omega) (by simp) (Nat.le_refl _) ?_
      intro v' w' h2 h3 _
      exact h v' w' (by simpa using h2) (Below.grown (Below.refl _ _) h3 (Nat.le_refl _) (fun k hk => by simp [Value.ownBlock] at hk))
    | none =>
      obtain rfl := hn rfl
      refine wpList_append_own_none hgd _ x t ho w.heap.size e i0 k ht hi (.slice none 0 0) 0 [] rfl (World.ownsRow_nil _ _ _ _) hx ?_
      exact h _ _ (World.ownsRow_nil _ _ _ _) (Below.refl _ _)
  | some ad cap L hlen hcap h0 hR =>
    refine wpList_append_own w hgd _ x t ho w.heap.size e i0 _ k bytes ht hi hz0 hz1 hz2 hzs hk (.slice none 0 0) 0 [] rfl (World.ownsRow_nil _ _ _ _) ad L.length cap L.flatten hx (flatL_len hL) (hR.flat hL hk) ?_ (by unfold maxLen; omega) hbb (Nat.le_refl _) ?_
    · intro u hu
      obtain ⟨l, hl1, hl2⟩ := List.mem_flatten.1 hu
      exact h1 l hl1 u hl2
    · intro v' w' h2 h3 _
      refine h v' w' (by simpa using h2) ?_
      exact Below.grown (Below.refl _ _) h3 (Nat.le_refl _) (fun k hk => by simp [Value.ownBlock] at hk)
theorem ownsL_below {W W' : World} {B base e size n : Nat} {v : Value} {xs : List Value} (h : W.ownsRow base e size v n xs) (hb : Below B W W') (hB : W.heap.size ≤ B) : W'.ownsRow base e size v n xs := by
  refine ⟨h.1, ?_⟩
  rcases h.2 with h0 | ⟨g, cap, cur, hv, hg, hh, rest⟩
  · exact .inl h0
  · have hlt := lt_of_block hh
    exact .inr ⟨g, cap, cur, hv, hg, by rw [hb.block g (by omega)]; exact hh, rest⟩
theorem sliceL_of_owns {w : World} {base e size n : Nat} {v : Value} {xs : List Value} (h : w.ownsRow base e size v n xs) : ∃ g c, v = .slice g n c := by
  rcases h.2 with ⟨rfl, rfl⟩ | ⟨g, cap, cur, rfl, _⟩
  · exact ⟨_, _, rfl⟩
  · exact ⟨_, _, rfl⟩
theorem bcellL {B : Nat} {w w' : World} (h : Below B w w') : ∀ c : Addr, c.block < B → w'.cell? c = w.cell? c := fun c hc => h.cell (p := c) hc
@[go_sem] theorem laterL_cell (W : World) (B : Nat) (x : World) (c : Addr) (h : c.block < B) : (later W B x).cell? c = W.cell? c := (later_below W B x).cell (p := c) h
@[go_sem] theorem allocL_cell (w : World) (o : Obj) (c : Addr) (h : c.block < w.heap.size) : (w.alloc o).cell? c = w.cell? c := ((Below.refl w.heap.size w).alloc (Nat.le_refl _) o).cell (p := c) h
end Go.Own

/-
  What the document's core comes to, and that it is what the program's does; plain.
  The document's numbers and keys as texts, by walking its text; conditions: int64 numbers.
  The document's core: a new one, what it has, a saga set, a posting posted, by walking its text; conditions: int64 numbers.
  What a saga becomes when it goes on, by walking both texts; conditions: none. (Printed by wip/mkon.py.)
  A saga's net, and its beginning, by walking the document's text; conditions: none.
  What a saga becomes by a reply, by walking both texts; conditions: none. (Printed by wip/mksaga.py.)
-/
import Derived.Test.YtibabfedpdoofaaGreatDoorQa1
import Derived.Test.YtibabfedpdoofaaGreatDoorQa3
import Derived.Test.YtibabfedpdoofaaGreatDoorQa7
import Derived.Test.YtibabfedpdoofaaGreatDoorQa9
import Derived.Test.YtibabfedpdoofaaGreatDoorQa10
namespace Go.Proofs.YtibabfedpdoofaaGreatDoor
open Go.RowKit Go.Own Go.Maps

/-- The document posts without looking. -/
def rawReply (P : List Pst) (id d by' : Int) : List Pst := if 0 < by' then P ++ [⟨putK id d, id, 1, 0, by'⟩] else if by' < 0 then P ++ [⟨putK id d, id, 3, 1, -by'⟩] else P
def rawReplyS (S : CoS) (id d code : Int) : CoS := match ordAt S.L id with
  | none => S
  | some x => match replyOf x.2 d code with
    | none => S
    | some t => ⟨sagAt S.L id (x.1, t), rawReply S.P id d (netS x.1 t - netS x.1 x.2)⟩
def rawStmt (P : List Pst) (f : Int → Int) (q : Int) : Nat → List Pst
  | 0 => P
  | k + 1 => if f ((k : Int) + 1) = 0 then rawStmt P f q k else rawStmt P f q k ++ [stPst q ((k : Int) + 1) (f ((k : Int) + 1))]
def rawS (S : CoS) (A : InS) (x : EntS) : CoS := if x.k = 1 then { S with L := placeL S.L x.ord } else if x.k = 2 then { S with L := stopL S.L x.o } else if x.k = 3 then rawReplyS S x.o x.d x.c else
  if x.k = 4 then (if accE A x.p x.q x.rs = 0 then { S with P := rawStmt S.P (byI A (A.put x.p x.q x.rs)) x.q 60 } else S) else S

/-! What a saga keeps. -/
theorem onOf_keeps (s : D6) : (s.b ≠ 0 → (onOf s).b = s.b) ∧ (s.e ≠ 0 → (onOf s).e = s.e) ∧ ((onOf s).b = s.b ∨ (onOf s).b = 1) ∧ ((onOf s).e = s.e ∨ (onOf s).e = 1) := by
  unfold onOf
  repeat' split
  all_goals (refine ⟨fun h => ?_, fun h => ?_, ?_, ?_⟩ <;> first | rfl | exact .inl rfl | exact .inr rfl | (exfalso; simp_all; done))
theorem waits_at {s : D6} (h : (waitsOf s).2 = true) : ((waitsOf s).1 = 0 ∧ s.a = 1) ∨ ((waitsOf s).1 = 1 ∧ s.b = 1) ∨ ((waitsOf s).1 = 2 ∧ s.c = 1) ∨ ((waitsOf s).1 = 3 ∧ s.d = 1) ∨ ((waitsOf s).1 = 4 ∧ s.e = 1) ∨ ((waitsOf s).1 = 5 ∧ s.f = 1) := by
  unfold waitsOf at h ⊢
  repeat' split at h
  all_goals simp_all
theorem reply_shape {s t : D6} {d code : Int} (h : replyOf s d code = some t) : (s.b = 2 → t.b = 2) ∧ (s.e = 2 → t.e = 2) ∧ (d ≠ 1 → t.b = 2 → s.b = 2) ∧ (d ≠ 4 → t.e = 2 → s.e = 2) ∧ (d = 1 → s.b = 1) ∧ (d = 4 → s.e = 1) := by
  unfold replyOf at h
  split at h
  · rename_i h1
    obtain ⟨hw, hd, hc⟩ := h1
    obtain rfl := Option.some.inj h
    obtain ⟨k1, k2, k3, k4⟩ := onOf_keeps (setD s d (code + 1))
    have hx := waits_at hw
    rw [hd] at hx
    rcases hx with ⟨rfl, h1⟩ | ⟨rfl, h1⟩ | ⟨rfl, h1⟩ | ⟨rfl, h1⟩ | ⟨rfl, h1⟩ | ⟨rfl, h1⟩ <;> simp only [setD] at k1 k2 k3 k4 ⊢ <;> simp at k1 k2 k3 k4 ⊢ <;> refine ⟨?_, ?_, ?_⟩ <;> intros <;> first | omega | (refine ⟨?_, ?_⟩ <;> intros <;> omega) | (refine ⟨?_, ?_, ?_⟩ <;> intros <;> omega) | skip
  · cases h
theorem stop_shape {s t : D6} (h : stopOf s = some t) : (s.b = 2 → t.b = 2) ∧ (s.e = 2 → t.e = 2) := by
  unfold stopOf at h
  split at h
  · rename_i h1
    have hw : (waitsOf s).2 = true := by
      unfold stateOf at h1
      repeat' split at h1
      all_goals simp_all
    obtain rfl := Option.some.inj h
    obtain ⟨k1, k2, k3, k4⟩ := onOf_keeps { setD s (waitsOf s).1 4 with x := true }
    have hx := waits_at hw
    generalize (waitsOf s).1 = d at *
    rcases hx with ⟨rfl, h1⟩ | ⟨rfl, h1⟩ | ⟨rfl, h1⟩ | ⟨rfl, h1⟩ | ⟨rfl, h1⟩ | ⟨rfl, h1⟩ <;> simp only [setD] at k1 k2 k3 k4 ⊢ <;> simp at k1 k2 k3 k4 ⊢ <;> refine ⟨?_, ?_⟩ <;> intros <;> omega
  · cases h
theorem reply_nets {o : OrdS} {s t : D6} {d code : Int} (h : replyOf s d code = some t) (hn : netS o t - netS o s ≠ 0) : (d = 1 ∧ s.b = 1 ∧ t.b = 2) ∨ (d = 4 ∧ s.e = 1 ∧ t.e = 2) := by
  obtain ⟨h1, h2, h3, h4, h5, h6⟩ := reply_shape h
  by_cases d1 : d = 1
  · subst d1
    have := h5 rfl
    by_cases tb : t.b = 2
    · exact .inl ⟨rfl, this, tb⟩
    · exfalso; apply hn
      unfold netS
      rw [if_neg (fun h => tb h.1), if_neg (fun h => by omega)]; rfl
  · by_cases d4 : d = 4
    · subst d4
      have := h6 rfl
      by_cases te : t.e = 2
      · exact .inr ⟨rfl, this, te⟩
      · exfalso; apply hn
        unfold netS
        have e1 : (t.b = 2 ∧ t.e ≠ 2) ↔ (s.b = 2 ∧ s.e ≠ 2) := ⟨fun h => ⟨h3 (by decide) h.1, by omega⟩, fun h => ⟨h1 h.1, te⟩⟩
        by_cases hc : s.b = 2 ∧ s.e ≠ 2
        · rw [if_pos hc, if_pos (e1.2 hc)]; omega
        · rw [if_neg hc, if_neg (fun h => hc (e1.1 h))]; rfl
    · exfalso; apply hn
      unfold netS
      have e1 : (t.b = 2 ∧ t.e ≠ 2) ↔ (s.b = 2 ∧ s.e ≠ 2) := ⟨fun h => ⟨h3 d1 h.1, fun he => h.2 (h2 he)⟩, fun h => ⟨h1 h.1, fun he => h.2 (h4 d4 he)⟩⟩
      by_cases hc : s.b = 2 ∧ s.e ≠ 2
      · rw [if_pos hc, if_pos (e1.2 hc)]; omega
      · rw [if_neg hc, if_neg (fun h => hc (e1.1 h))]; rfl

/-! What is posted is new. -/
def smallOk (p : Pst) : Prop := mayPst p = true ∧ p.a ≤ 2199023255552
def srcOk (L : List (OrdS × D6)) (q0 : Int) (p : Pst) : Prop :=
  (∃ (j : Nat) (d : Int) (x : OrdS × D6), L[j]? = some x ∧ p.id = putK ((j : Int) + 1) d ∧ ((d = 1 ∧ x.2.b = 2) ∨ (d = 4 ∧ x.2.e = 2))) ∨ (∃ s o : Int, p.id = sidK s o ∧ 0 ≤ s ∧ s ≤ q0 ∧ 0 ≤ o)
structure CoInv (S : CoS) (A : InS) : Prop where
  ok : CoOk S
  inok : InOk A
  q0 : 0 ≤ A.q0
  small : ∀ p ∈ S.P, smallOk p
  src : ∀ p ∈ S.P, srcOk S.L A.q0 p
theorem coInv_new : CoInv ⟨[], []⟩ zeroI := ⟨coNew_ok, zeroI_ok, by decide, by simp, by simp⟩
theorem srcOk.mono {L M : List (OrdS × D6)} {q r : Int} {p : Pst} (h : srcOk L q p) (hq : q ≤ r) (hL : ∀ (j : Nat) x, L[j]? = some x → ∃ y, M[j]? = some y ∧ (x.2.b = 2 → y.2.b = 2) ∧ (x.2.e = 2 → y.2.e = 2)) : srcOk M r p := by
  rcases h with ⟨j, d, x, h1, h2, h3⟩ | ⟨s, o, h1, h2, h3, h4⟩
  · obtain ⟨y, g1, g2, g3⟩ := hL j x h1
    exact .inl ⟨j, d, y, g1, h2, by rcases h3 with ⟨a, b⟩ | ⟨a, b⟩; exact .inl ⟨a, g2 b⟩; exact .inr ⟨a, g3 b⟩⟩
  · exact .inr ⟨s, o, h1, h2, by omega, h4⟩
theorem place_keeps (L : List (OrdS × D6)) (o : OrdS) : ∀ (j : Nat) x, L[j]? = some x → ∃ y, (placeL L o)[j]? = some y ∧ (x.2.b = 2 → y.2.b = 2) ∧ (x.2.e = 2 → y.2.e = 2) := fun j x h => by
  refine ⟨x, ?_, id, id⟩
  unfold placeL
  split
  · rw [List.getElem?_append_left (List.getElem?_eq_some_iff.1 h).1]; exact h
  · exact h
theorem sagAt_keeps {L : List (OrdS × D6)} {id : Int} {x : OrdS × D6} {t : D6} (hx : ordAt L id = some x) (hb : x.2.b = 2 → t.b = 2) (he : x.2.e = 2 → t.e = 2) : ∀ (j : Nat) y, L[j]? = some y → ∃ z, (sagAt L id (x.1, t))[j]? = some z ∧ (y.2.b = 2 → z.2.b = 2) ∧ (y.2.e = 2 → z.2.e = 2) := fun j y h => by
  obtain ⟨i, hi, rfl, rfl⟩ := ordAt_some hx
  unfold sagAt
  rw [show ((i : Int) + 1 - 1).toNat = i by omega]
  by_cases hj : i = j
  · subst hj
    rw [List.getElem?_eq_getElem hi] at h
    obtain rfl := Option.some.inj h
    exact ⟨_, List.getElem?_set_self hi, hb, he⟩
  · exact ⟨y, by rw [List.getElem?_set_ne hj]; exact h, id, id⟩
theorem rawStmt_eq {P : List Pst} {f : Int → Int} {q : Int} (hs : ∀ p ∈ P, smallOk p) (hn : ∀ p ∈ P, ∀ o : Int, 0 ≤ o → p.id ≠ sidK q o) (hq : 0 ≤ q) (hf : ∀ o, -2199023255552 ≤ f o ∧ f o ≤ 2199023255552) (hl : P.length ≤ 99000) :
    ∀ k : Nat, k ≤ 60 → rawStmt P f q k = stmtP P f q k ∧ (∀ p ∈ stmtP P f q k, smallOk p ∧ (p ∈ P ∨ ∃ o : Int, p.id = sidK q o ∧ 0 ≤ o ∧ o ≤ (k : Int))) ∧ (stmtP P f q k).length ≤ P.length + k
  | 0, _ => ⟨rfl, fun p hp => ⟨hs p hp, .inl hp⟩, Nat.le_refl _⟩
  | k + 1, hk => by
    obtain ⟨h1, h2, h3⟩ := rawStmt_eq hs hn hq hf hl k (by omega)
    unfold rawStmt stmtP
    by_cases h0 : f ((k : Int) + 1) = 0
    · rw [if_pos h0, if_pos h0]
      exact ⟨h1, fun p hp => ⟨(h2 p hp).1, by rcases (h2 p hp).2 with h | ⟨o, a, b, c⟩; exact .inl h; exact .inr ⟨o, a, b, by omega⟩⟩, by omega⟩
    · rw [if_neg h0, if_neg h0, h1]
      have hb := hf ((k : Int) + 1)
      have hid : (stPst q ((k : Int) + 1) (f ((k : Int) + 1))).id = sidK q ((k : Int) + 1) := by unfold stPst; split <;> rfl
      have hm : smallOk (stPst q ((k : Int) + 1) (f ((k : Int) + 1))) := by
        unfold stPst
        split
        · exact ⟨mayPst_iff.2 ⟨sidK_ne _ _, by dsimp only; omega, by dsimp only; omega, by dsimp only; omega, by dsimp only; omega, by dsimp only; omega, by dsimp only; omega, by dsimp only; omega⟩, by dsimp only; omega⟩
        · exact ⟨mayPst_iff.2 ⟨sidK_ne _ _, by dsimp only; omega, by dsimp only; omega, by dsimp only; omega, by dsimp only; omega, by dsimp only; omega, by dsimp only; omega, by dsimp only; omega⟩, by dsimp only; omega⟩
      have hnew := post_new (P := stmtP P f q k) (p := stPst q ((k : Int) + 1) (f ((k : Int) + 1))) (fun p hp => (h2 p hp).1) (by omega) hm.1 hm.2 (fun p hp he => by
        rw [hid] at he
        rcases (h2 p hp).2 with h | ⟨o, a, b, c⟩
        · exact hn p h _ (by omega) he
        · rw [a] at he
          have := (sidK_inj hq hq b (by omega) he).2
          omega)
      rw [hnew]
      refine ⟨rfl, fun p hp => ?_, by simp; omega⟩
      rcases List.mem_append.1 hp with hp | hp
      · exact ⟨(h2 p hp).1, by rcases (h2 p hp).2 with h | ⟨o, a, b, c⟩; exact .inl h; exact .inr ⟨o, a, b, by omega⟩⟩
      · obtain rfl := List.mem_singleton.1 hp
        exact ⟨hm, .inr ⟨_, hid, by omega, by omega⟩⟩
theorem stmt_zero {P : List Pst} {f : Int → Int} {q : Int} (hf : ∀ o, f o = 0) : ∀ k : Nat, rawStmt P f q k = P ∧ stmtP P f q k = P
  | 0 => ⟨rfl, rfl⟩
  | k + 1 => by
    unfold rawStmt stmtP
    rw [if_pos (hf _), if_pos (hf _)]
    exact stmt_zero hf k
theorem byI_zero {A : InS} {p q : Int} {rs : List RowS} (hp : p ≠ 0) (o : Int) : byI A (A.put p q rs) o = 0 := by
  have h : ∀ d, partyOf d = 0 → rowOf (A.put p q rs) o d = rowOf A o d := fun d hd => by
    unfold rowOf
    rw [hd]
    have : (A.put p q rs).rows 0 = A.rows 0 := by
      show (A.put p q rs).r0 = A.r0
      unfold InS.put
      rw [if_neg hp]
      split <;> rfl
    rw [this]
  unfold byI netI
  rw [h 1 (by decide), h 4 (by decide)]
  omega
theorem byI_bound {A B : InS} (h : InOk A) (h2 : InOk B) (o : Int) : -2199023255552 ≤ byI A B o ∧ byI A B o ≤ 2199023255552 := by
  have h3 := netI_bound h o
  have h4 := netI_bound h2 o
  unfold byI
  omega

/-- What the document's core comes to is what the program's does. -/
theorem coInv_step {S : CoS} {A : InS} (h : CoInv S A) (hl : S.P.length ≤ 99000) (x : EntS) : rawS S A x = applyS S A x ∧ CoInv (applyS S A x) (applyI A x) := by
  have hok := (applyS_ok (A := A) h.ok x).1
  have hin := applyI_ok h.inok x
  unfold rawS applyS applyI at *
  by_cases k1 : x.k = 1
  · rw [if_pos k1] at hok
    rw [if_neg (by rw [k1]; simp)] at hin
    rw [if_pos k1, if_pos k1, if_neg (by rw [k1]; simp)]
    exact ⟨rfl, hok, hin, h.q0, h.small, fun p hp => (h.src p hp).mono (Int.le_refl _) (place_keeps _ _)⟩
  rw [if_neg k1] at hok
  rw [if_neg k1, if_neg k1]
  by_cases k2 : x.k = 2
  · rw [if_pos k2] at hok
    rw [if_neg (by rw [k2]; simp)] at hin
    rw [if_pos k2, if_pos k2, if_neg (by rw [k2]; simp)]
    refine ⟨rfl, hok, hin, h.q0, h.small, fun p hp => (h.src p hp).mono (Int.le_refl _) ?_⟩
    intro j y hy
    show ∃ z, (stopL S.L x.o)[j]? = some z ∧ _
    unfold stopL
    cases ho : ordAt S.L x.o with
    | none => exact ⟨y, hy, id, id⟩
    | some z =>
      simp only
      cases hs : stopOf z.2 with
      | none => exact ⟨y, hy, id, id⟩
      | some t => exact sagAt_keeps ho (stop_shape hs).1 (stop_shape hs).2 j y hy
  rw [if_neg k2] at hok
  rw [if_neg k2, if_neg k2]
  by_cases k3 : x.k = 3
  · rw [if_pos k3] at hok
    rw [if_neg (by rw [k3]; simp)] at hin
    rw [if_pos k3, if_pos k3, if_neg (by rw [k3]; simp)]
    unfold rawReplyS
    unfold replyS at hok ⊢
    cases ho : ordAt S.L x.o with
    | none => exact ⟨rfl, h⟩
    | some y =>
      rw [ho] at hok
      simp only at hok ⊢
      cases hr : replyOf y.2 x.d x.c with
      | none => exact ⟨rfl, h⟩
      | some t =>
        rw [hr] at hok
        simp only at hok ⊢
        obtain ⟨j, hj, hid, rfl⟩ := ordAt_some ho
        obtain ⟨s1, s2, _⟩ := reply_shape hr
        have hdd := replyOf_deed hr
        have hkeep := sagAt_keeps (t := t) ho s1 s2
        have hnow : (sagAt S.L x.o (S.L[j].1, t))[j]? = some (S.L[j].1, t) := by
          unfold sagAt
          rw [hid, show ((j : Int) + 1 - 1).toNat = j by omega, List.getElem?_set_self hj]
        have b1 := netS_bound (h.ok.ord _ (List.getElem_mem hj)) t
        have b2 := netS_bound (h.ok.ord _ (List.getElem_mem hj)) S.L[j].2
        have hsrc : ∀ p ∈ S.P, srcOk (sagAt S.L x.o (S.L[j].1, t)) A.q0 p := fun p hp => (h.src p hp).mono (Int.le_refl _) hkeep
        by_cases hz : netS S.L[j].1 t - netS S.L[j].1 S.L[j].2 = 0
        · have e1 : ∀ P, rawReply P x.o x.d (netS S.L[j].1 t - netS S.L[j].1 S.L[j].2) = P := fun P => by rw [hz]; rfl
          have e2 : ∀ P, replyP P x.o x.d (netS S.L[j].1 t - netS S.L[j].1 S.L[j].2) = P := fun P => by rw [hz]; rfl
          rw [e2] at hok
          rw [e1, e2]
          exact ⟨rfl, hok, hin, h.q0, h.small, hsrc⟩
        · have hd := reply_nets hr hz
          have hnew : ∀ p ∈ S.P, p.id ≠ putK x.o x.d := fun p hp he => by
            rcases h.src p hp with ⟨i, d, y, g1, g2, g3⟩ | ⟨s, o, g1, _, _, _⟩
            · rw [g2] at he
              obtain ⟨e1, e2⟩ := putK_inj (by omega) (by omega) (by omega) (by omega) hdd.1 hdd.2 he
              have : i = j := by omega
              subst this
              rw [List.getElem?_eq_getElem hj] at g1
              obtain rfl := Option.some.inj g1
              omega
            · rw [g1] at he
              exact put_ne_sid (by omega) he.symm
          have hmk : ∀ (a b c : Int), 0 ≤ a → a ≤ 4 → 0 ≤ b → b ≤ 4 → a ≠ b → 0 ≤ c → c ≤ 1099511627776 → smallOk ⟨putK x.o x.d, x.o, a, b, c⟩ := fun a b c h1 h2 h3 h4 h5 h6 h7 => ⟨mayPst_iff.2 ⟨putK_ne _ _, by dsimp only; omega, h1, h2, h3, h4, h5, h6⟩, by dsimp only; omega⟩
          have hsrc' : ∀ (p : Pst), p.id = putK x.o x.d → srcOk (sagAt S.L x.o (S.L[j].1, t)) A.q0 p := fun p hp => .inl ⟨j, x.d, _, hnow, by rw [hp, hid], by rcases hd with ⟨a, _, c⟩ | ⟨a, _, c⟩; exact .inl ⟨a, c⟩; exact .inr ⟨a, c⟩⟩
          have key : ∀ (p : Pst), p.id = putK x.o x.d → smallOk p → postL S.P p = S.P ++ [p] := fun p hp hs => post_new (fun q hq => h.small q hq) (by omega) hs.1 hs.2 (fun q hq => by rw [hp]; exact hnew q hq)
          have fin : ∀ (p : Pst), p.id = putK x.o x.d → smallOk p → (∀ q ∈ S.P ++ [p], smallOk q) ∧ (∀ q ∈ S.P ++ [p], srcOk (sagAt S.L x.o (S.L[j].1, t)) A.q0 q) := fun p hp hs => by
            refine ⟨fun q hq => ?_, fun q hq => ?_⟩
            · rcases List.mem_append.1 hq with hq | hq
              · exact h.small q hq
              · rw [List.mem_singleton.1 hq]; exact hs
            · rcases List.mem_append.1 hq with hq | hq
              · exact hsrc q hq
              · rw [List.mem_singleton.1 hq]; exact hsrc' p hp
          unfold rawReply
          unfold replyP at hok ⊢
          by_cases c1 : 0 < netS S.L[j].1 t - netS S.L[j].1 S.L[j].2
          · rw [if_pos c1] at hok
            rw [if_pos c1, if_pos c1]
            have hs := hmk 1 0 _ (by decide) (by decide) (by decide) (by decide) (by decide) (Int.le_of_lt c1) (by omega)
            rw [key _ rfl hs] at hok ⊢
            exact ⟨rfl, hok, hin, h.q0, (fin _ rfl hs).1, (fin _ rfl hs).2⟩
          · have c2 : netS S.L[j].1 t - netS S.L[j].1 S.L[j].2 < 0 := by omega
            rw [if_neg c1, if_pos c2] at hok
            rw [if_neg c1, if_pos c2, if_neg c1, if_pos c2]
            have hs := hmk 3 1 (-(netS S.L[j].1 t - netS S.L[j].1 S.L[j].2)) (by decide) (by decide) (by decide) (by decide) (by decide) (by omega) (by omega)
            rw [key _ rfl hs] at hok ⊢
            exact ⟨rfl, hok, hin, h.q0, (fin _ rfl hs).1, (fin _ rfl hs).2⟩
  rw [if_neg k3] at hok
  rw [if_neg k3, if_neg k3]
  by_cases k4 : x.k = 4
  · rw [if_pos k4] at hok
    rw [if_pos k4, if_pos k4]
    by_cases ha : accE A x.p x.q x.rs = 0
    · rw [if_pos ha] at hok
      rw [if_pos ⟨k4, ha⟩] at hin
      rw [if_pos ha, if_pos ha, if_pos ⟨k4, ha⟩]
      obtain ⟨hst, hsq⟩ := accE_ok ha
      obtain ⟨_, _, p0, p2, _, _⟩ := okStmt_ok hst
      by_cases hp : x.p = 0
      · have hq : A.q0 < x.q := by rw [hp] at hsq; exact hsq
        have hz := h.q0
        obtain ⟨h1, h2, _⟩ := rawStmt_eq (q := x.q) (f := byI A (A.put x.p x.q x.rs)) h.small (fun p hp o ho he => by
          rcases h.src p hp with ⟨i, d, y, g1, g2, g3⟩ | ⟨s, o', g1, g2, g3, g4⟩
          · rw [g2] at he
            exact put_ne_sid (by omega) he
          · rw [g1] at he
            have := (sidK_inj g2 (by omega) g4 ho he).1
            omega) (by omega) (byI_bound h.inok hin) hl 60 (Nat.le_refl _)
        rw [h1]
        have hq0 : (A.put x.p x.q x.rs).q0 = x.q := by unfold InS.put; rw [if_pos hp]
        refine ⟨rfl, hok, hin, by omega, fun p hp => (h2 p hp).1, fun p hp => ?_⟩
        rcases (h2 p hp).2 with g | ⟨o, g1, g2, g3⟩
        · exact (h.src p g).mono (by omega) (fun j y hy => ⟨y, hy, id, id⟩)
        · exact .inr ⟨x.q, o, g1, by omega, by omega, g2⟩
      · obtain ⟨e1, e2⟩ := stmt_zero (P := S.P) (f := byI A (A.put x.p x.q x.rs)) (q := x.q) (byI_zero hp) 60
        rw [e2] at hok
        rw [e1, e2]
        have hq0 : (A.put x.p x.q x.rs).q0 = A.q0 := by unfold InS.put; rw [if_neg hp]; split <;> rfl
        exact ⟨rfl, hok, hin, by rw [hq0]; exact h.q0, h.small, by rw [hq0]; exact h.src⟩
    · rw [if_neg ha, if_neg ha, if_neg (fun hh => ha hh.2)]
      exact ⟨rfl, h⟩
  · rw [if_neg k4, if_neg k4, if_neg (fun hh => k4 hh.1)]
    exact ⟨rfl, h⟩
theorem coreOf_inv (l : List EntS) (hl : l.length ≤ 1000) : ∀ j ≤ l.length, CoInv (coreOf (l.take j)).1 (coreOf (l.take j)).2
  | 0, _ => coInv_new
  | j + 1, h => by
    have h1 := coreOf_inv l hl j (by omega)
    rw [coreOf_snoc l (by omega)]
    exact (coInv_step h1 (by have := (coreOf_ok l j (by omega)).2.1; omega) l[j]).2
/-! An order's number is its place. -/
def idsOk (L : List (OrdS × D6)) : Prop := ∀ (j : Nat) x, L[j]? = some x → x.1.id = (j : Int) + 1
theorem place_ids {L : List (OrdS × D6)} (h : idsOk L) (o : OrdS) : idsOk (placeL L o) := fun j x hx => by
  unfold placeL at hx
  split at hx
  · rename_i h0
    have ho : o.id = (L.length : Int) + 1 := by
      unfold placeE at h0
      repeat' split at h0
      all_goals first | (cases h0; done) | omega | skip
      all_goals (rename_i hh; exact Classical.not_not.1 hh)
    by_cases hj : j < L.length
    · rw [List.getElem?_append_left hj] at hx
      exact h j x hx
    · rw [List.getElem?_append_right (by omega)] at hx
      have h1 : j - L.length = 0 := by
        rcases Nat.eq_zero_or_pos (j - L.length) with h2 | h2
        · exact h2
        · rw [List.getElem?_eq_none (by simp; omega)] at hx
          cases hx
      rw [h1] at hx
      obtain rfl : (o, beginD) = x := by simpa using hx
      show o.id = _
      omega
  · exact h j x hx
theorem sagAt_ids {L : List (OrdS × D6)} {id : Int} {x : OrdS × D6} {t : D6} (h : idsOk L) (hx : ordAt L id = some x) : idsOk (sagAt L id (x.1, t)) := fun j y hy => by
  obtain ⟨i, hi, rfl, rfl⟩ := ordAt_some hx
  unfold sagAt at hy
  rw [show ((i : Int) + 1 - 1).toNat = i by omega] at hy
  by_cases hj : i = j
  · subst hj
    rw [List.getElem?_set_self hi] at hy
    obtain rfl := Option.some.inj hy
    exact h i L[i] (List.getElem?_eq_getElem hi)
  · rw [List.getElem?_set_ne hj] at hy
    exact h j y hy
theorem ids_step {S : CoS} {A : InS} (h : idsOk S.L) (x : EntS) : idsOk (applyS S A x).L := by
  unfold applyS
  split
  · exact place_ids h _
  split
  · show idsOk (stopL S.L x.o)
    unfold stopL
    split
    · exact h
    · rename_i y hy
      split
      · exact h
      · exact sagAt_ids h hy
  split
  · unfold replyS
    split
    · exact h
    · rename_i y hy
      split
      · exact h
      · exact sagAt_ids h hy
  split
  · split
    · exact h
    · exact h
  · exact h
theorem coreOf_ids (l : List EntS) : ∀ j ≤ l.length, idsOk (coreOf (l.take j)).1.L
  | 0, _ => fun j x hx => by cases hx
  | j + 1, h => by
    rw [coreOf_snoc l (by omega)]
    exact ids_step (coreOf_ids l j (by omega)) l[j]
end Go.Proofs.YtibabfedpdoofaaGreatDoor
namespace Go.Proofs.YtibabfedpdoofaaGreatDoor
open Go.RowKit Go.Own Go.Maps

set_option maxHeartbeats 4000000 in
set_option maxRecDepth 100000 in
theorem refPut01_any {n : Int} (h0 : 0 ≤ n) (h1 : n ≤ 9223372036854775807) (W : World) : Calls Tryz.prog 115 #[.int .i64 n] W fun e w' => e = .returned (.string ⟨(Lib.itoa n).toArray⟩) ∧ Below W.heap.size W w' := by
  have HO := Own.start W
  obtain ⟨m, rfl⟩ : ∃ m : Nat, n = (m : Int) := ⟨n.toNat, by omega⟩
  have RD := fun w => refDigits_any (n := m) (by omega) w
  have e1 : IntKind.u64.wrap (m : Int) = (m : Int) := by rw [IntKind.wrap_u64]; omega
  have hm : ¬ ((m : Int) < 0) := by omega
  rw [Lib.itoa_nonneg]
  go_enter Tryz.func115, Tryz.ntmps115
  go_wp2_with (first | (go_at_call 145; go_must ((with_reducible refine (RD _).mono ?_); rintro e w ⟨rfl, hb⟩; replace HO := HO.call hb; clear hb)))
  go_ret
  exact ⟨rfl, HO.grown⟩

set_option maxHeartbeats 4000000 in
set_option maxRecDepth 100000 in
theorem refWords_any (W : World) : Calls Tryz.prog 176 #[] W fun e w' => e = .returned (.agg #[.string ⟨#[114, 101, 115, 101, 114, 118, 101]⟩, .string ⟨#[99, 104, 97, 114, 103, 101]⟩, .string ⟨#[115, 104, 105, 112]⟩, .string ⟨#[114, 101, 108, 101, 97, 115, 101]⟩, .string ⟨#[114, 101, 102, 117, 110, 100]⟩, .string ⟨#[118, 111, 105, 100]⟩]) ∧ Below W.heap.size W w' := by
  have HO := Own.start W
  go_enter Tryz.func176, Tryz.ntmps176
  go_wp2_with (first | (first | go_big_skip | ((with_reducible apply wpList_loadAll HO); exact rfl; exact rfl; (repeat (with_reducible (first | exact At.head _ | apply At.tail))); infer_instance; exact rfl; exact rfl; (simp only [Act.put, zA, zB, zC])) | ((with_reducible apply wpList_loadOne HO); exact rfl; exact rfl; (repeat (with_reducible (first | exact At.head _ | apply At.tail))); exact rfl; infer_instance; exact rfl; (simp only [Act.put, zA, zB, zC]))) | ((with_reducible apply wpList_storeAll HO); exact rfl; exact rfl; exact rfl; (repeat (with_reducible (first | exact At.head _ | apply At.tail))); infer_instance; exact rfl; exact rfl; exact rfl; exact rfl; clear HO; intro w HO; (simp only [Act.put])) | (first | ((with_reducible apply wpList_boxAgg _ HO rfl); exact rfl; exact rfl; exact rfl; clear HO; intro b1 w HO; (simp only [Act.put, zA, zB, zC])) | ((with_reducible apply wpList_allocAgg _ HO rfl); exact rfl; infer_instance; exact rfl; clear HO; intro b1 w HO; (simp only [Act.put, List.setIfInBounds_toArray, List.set_cons_zero]))))
  refine bodyPost_ret (results_one HO rfl rfl (by (repeat (with_reducible (first | exact At.head _ | apply At.tail)))) inferInstance rfl) rfl ?_
  exact ⟨rfl, HO.grown⟩

set_option maxHeartbeats 8000000 in
set_option maxRecDepth 100000 in
theorem refWord_any {d : Int} (h0 : 0 ≤ d) (h5 : d ≤ 5) (W : World) : Calls Tryz.prog 162 #[.int .i64 d] W fun e w' => e = .returned (.string ⟨(deedL d).toArray⟩) ∧ Below W.heap.size W w' := by
  have HO := Own.start W
  have hd : d = 0 ∨ d = 1 ∨ d = 2 ∨ d = 3 ∨ d = 4 ∨ d = 5 := by omega
  have WD := fun w => refWords_any w
  rcases hd with rfl | rfl | rfl | rfl | rfl | rfl
  all_goals
    go_enter Tryz.func162, Tryz.ntmps162
    go_wp2_with (first | go_big_skip | (go_at_call 176; go_must ((with_reducible refine (WD _).mono ?_); rintro e w ⟨rfl, hb⟩; replace HO := HO.call hb; clear hb)) | ((with_reducible apply wpList_indexOne (i := 0)); exact rfl; exact rfl; exact rfl; exact Tryz.underlying243; exact (by decide); infer_instance; exact rfl; exact rfl; (simp only [Act.put, zA, zB, zC])) | ((with_reducible apply wpList_indexOne (i := 1)); exact rfl; exact rfl; exact rfl; exact Tryz.underlying243; exact (by decide); infer_instance; exact rfl; exact rfl; (simp only [Act.put, zA, zB, zC])) | ((with_reducible apply wpList_indexOne (i := 2)); exact rfl; exact rfl; exact rfl; exact Tryz.underlying243; exact (by decide); infer_instance; exact rfl; exact rfl; (simp only [Act.put, zA, zB, zC])) | ((with_reducible apply wpList_indexOne (i := 3)); exact rfl; exact rfl; exact rfl; exact Tryz.underlying243; exact (by decide); infer_instance; exact rfl; exact rfl; (simp only [Act.put, zA, zB, zC])) | ((with_reducible apply wpList_indexOne (i := 4)); exact rfl; exact rfl; exact rfl; exact Tryz.underlying243; exact (by decide); infer_instance; exact rfl; exact rfl; (simp only [Act.put, zA, zB, zC])) | ((with_reducible apply wpList_indexOne (i := 5)); exact rfl; exact rfl; exact rfl; exact Tryz.underlying243; exact (by decide); infer_instance; exact rfl; exact rfl; (simp only [Act.put, zA, zB, zC])))
    go_ret
    exact ⟨rfl, HO.grown⟩

set_option maxHeartbeats 8000000 in
set_option maxRecDepth 100000 in
theorem refKeyPut_any {o d : Int} (hk : keyOk o d = true) (W : World) : Calls Tryz.prog 135 #[.agg #[.int .i64 o, .int .i64 d]] W fun e w' => e = .returned (.string (putK o d)) ∧ Below W.heap.size W w' := by
  have HO := Own.start W
  have h1 : 1 ≤ o ∧ o ≤ 60 ∧ 0 ≤ d ∧ d ≤ 5 := by
    simp only [keyOk, isDeed, Bool.and_eq_true, decide_eq_true_eq] at hk
    omega
  have KC := fun w => refKeyCheck_any o d w
  rw [hk] at KC
  have MP := fun w => refPut01_any (n := o) (by omega) (by omega) w
  have WD := fun w => refWord_any h1.2.2.1 h1.2.2.2 w
  have hlen := Lib.itoa_length_le o (by omega) (by omega)
  have s1 : (⟨(Lib.itoa o).toArray⟩ : ByteArray).size ≤ 21 := hlen
  have s2 : (⟨(deedL d).toArray⟩ : ByteArray).size ≤ 7 := by
    show (deedL d).length ≤ 7
    unfold deedL
    repeat' split
    all_goals decide
  have c1 : ¬ (9223372036854775807 < (⟨(Lib.itoa o).toArray⟩ : ByteArray).size + (⟨#[45]⟩ : ByteArray).size) := by
    show ¬ (9223372036854775807 < (⟨(Lib.itoa o).toArray⟩ : ByteArray).size + 1); omega
  have c2 : ¬ (9223372036854775807 < (⟨(Lib.itoa o).toArray⟩ : ByteArray).size + 1) := by omega
  have e1 : ((⟨(Lib.itoa o).toArray⟩ : ByteArray) ++ ⟨#[45]⟩).size = (⟨(Lib.itoa o).toArray⟩ : ByteArray).size + 1 := by rw [ByteArray.size_append]; rfl
  have c3 : ¬ (9223372036854775807 < ((⟨(Lib.itoa o).toArray⟩ : ByteArray) ++ ⟨#[45]⟩).size + (⟨(deedL d).toArray⟩ : ByteArray).size) := by rw [e1]; omega
  have c4 : ¬ (9223372036854775807 < (⟨(Lib.itoa o).toArray⟩ : ByteArray).size + 1 + (⟨(deedL d).toArray⟩ : ByteArray).size) := by omega
  have HP := Lib.hid (show putK o d = (⟨(Lib.itoa o).toArray⟩ : ByteArray) ++ ⟨#[45]⟩ ++ ⟨(deedL d).toArray⟩ from rfl)
  generalize putK o d = y at *
  generalize (⟨(Lib.itoa o).toArray⟩ : ByteArray) = x1 at *
  generalize (⟨(deedL d).toArray⟩ : ByteArray) = x2 at *
  clear hk h1 hlen s1 s2 e1
  go_enter Tryz.func135, Tryz.ntmps135
  go_wp2_with (first | (first | go_big_skip | ((with_reducible apply wpList_loadAll HO); exact rfl; exact rfl; (repeat (with_reducible (first | exact At.head _ | apply At.tail))); infer_instance; exact rfl; exact rfl; (simp only [Act.put, zA, zB, zC])) | ((with_reducible apply wpList_loadOne HO); exact rfl; exact rfl; (repeat (with_reducible (first | exact At.head _ | apply At.tail))); exact rfl; infer_instance; exact rfl; (simp only [Act.put, zA, zB, zC]))) | (first | ((with_reducible apply wpList_boxAgg _ HO rfl); exact rfl; exact rfl; exact rfl; clear HO; intro b3 w HO; (simp only [Act.put, zA, zB, zC])) | ((with_reducible apply wpList_allocAgg _ HO rfl); exact rfl; infer_instance; exact rfl; clear HO; intro b3 w HO; (simp only [Act.put, zA, zB, zC]))) | (go_at_call 161; go_must ((with_reducible refine (KC _).mono ?_); rintro e w ⟨rfl, hb⟩; replace HO := HO.call hb; clear hb)))
  refine region_own HO (by kernel_rfl) (by kernel_rfl) ?_
  clear HO
  intro F HF
  repeat (first | (first | go_big_quiet_skip | ((with_reducible apply wpQuiet_loadAll HF); exact rfl; exact rfl; (repeat (with_reducible (first | exact At.head _ | apply At.tail))); infer_instance; exact rfl; exact rfl; (simp only [Act.put, zA, zB, zC])) | ((with_reducible apply wpQuiet_loadOne HF); exact rfl; exact rfl; (repeat (with_reducible (first | exact At.head _ | apply At.tail))); exact rfl; infer_instance; exact rfl; (simp only [Act.put, zA, zB, zC])) | ((with_reducible apply wpQuiet_loadPart HF); exact rfl; exact rfl; (repeat (with_reducible (first | exact At.head _ | apply At.tail))); infer_instance; exact (Nat.le_of_ble_eq_true rfl); (simp only [List.drop_succ_cons, List.drop_zero, List.take_succ_cons, List.take_zero]; rfl); exact rfl; (simp only [Act.put, zA, zB, zC]))) | go_big_quiet_step ((first | (go_at_call 115; (with_reducible exact calls_fam HF (MP _))) | (go_at_call 162; (with_reducible exact calls_fam HF (WD _))))))
  refine wpQuiet_nil ?_
  intro x
  have HO := HF.own x
  clear HF
  generalize F x = w at *
  clear x F
  go_wp2_with fail
  go_ret
  exact ⟨by rw [HP.out]; rfl, HO.grown⟩

set_option maxHeartbeats 8000000 in
set_option maxRecDepth 100000 in
theorem digits24_any : ∀ (n : Nat), n < 9223372036854775808 → ∀ W : World, Calls Tryz.prog 91 #[.int .i64 (n : Int)] W fun e w' => e = .returned (.string ⟨(Lib.decDigits n).toArray⟩) ∧ Below W.heap.size W w' := fun n => by
  induction n using Nat.strongRecOn with
  | ind n ih =>
    intro hn W
    have HO := Own.start W
    obtain ⟨k, hk⟩ : ∃ k, k = n % 10 := ⟨_, rfl⟩
    obtain ⟨q, hq⟩ : ∃ q, q = n / 10 := ⟨_, rfl⟩
    have hk10 : k < 10 := by omega
    have hk58 : 48 + k < 256 := by omega
    have e1 : (n : Int).tmod 10 = (k : Int) := by rw [Int.tmod_eq_emod_of_nonneg (by omega), hk]; rfl
    have e2 : (n : Int).tdiv 10 = (q : Int) := by rw [Int.tdiv_eq_ediv_of_nonneg (by omega), hq]; rfl
    have e3 : IntKind.i64.wrap (48 + (k : Int)) = 48 + (k : Int) := by rw [wrap_in (inI_iff.2 (by omega))]
    have e4 : IntKind.u8.wrap (48 + (k : Int)) = 48 + (k : Int) := by rw [IntKind.wrap_u8]; omega
    have e5 : IntKind.i64.wrap (q : Int) = (q : Int) := by rw [wrap_in (inI_iff.2 (by omega))]
    have e6 : IntKind.i64.wrap (k : Int) = (k : Int) := by rw [wrap_in (inI_iff.2 (by omega))]
    by_cases h10 : n < 10
    · have hc : ¬ ((10 : Int) ≤ (n : Int)) := by omega
      have HD := Lib.hid (show Lib.decDigits n = [UInt8.ofNat (48 + k)] by rw [Lib.decDigits, dif_pos h10, hk, Nat.mod_eq_of_lt h10])
      clear ih hq hk e2 e5
      go_enter Tryz.func91, Tryz.ntmps91
      go_wp2_with (first | (first | go_big_skip | ((with_reducible apply wpList_loadAll HO); exact rfl; exact rfl; (repeat (with_reducible (first | exact At.head _ | apply At.tail))); infer_instance; exact rfl; exact rfl; (simp only [Act.put, zA, zB, zC])) | ((with_reducible apply wpList_loadOne HO); exact rfl; exact rfl; (repeat (with_reducible (first | exact At.head _ | apply At.tail))); exact rfl; infer_instance; exact rfl; (simp only [Act.put, zA, zB, zC]))) | (first | ((with_reducible apply wpList_lit1 HO); exact rfl; infer_instance; infer_instance; exact rfl; exact rfl; exact (by decide); exact rfl; clear HO; intro bb w HO; (simp only [Act.put, zA, zB, zC])) | ((with_reducible apply wpList_lit1c HO); exact rfl; infer_instance; infer_instance; (first | (simp [Act.eval]; rfl) | exact rfl); exact rfl; exact rfl; clear HO; intro bb w HO; (simp only [Act.put, zA, zB, zC]))) | ((with_reducible apply wpList_strOne (n := 48 + k) HO); exact rfl; exact rfl; (repeat (with_reducible (first | exact At.head _ | apply At.tail))); (first | omega | (simp; done) | (simp; omega)); exact Tryz.underlying23; exact Tryz.underlying5; exact Tryz.underlying9; (first | omega | decide); exact rfl; (simp only [Act.put, zA, zB, zC])))
      go_ret
      exact ⟨by rw [HD.out, UInt8.ofNat_add]; rfl, HO.grown⟩
    · have hc : (10 : Int) ≤ (n : Int) := by omega
      have IH := fun w => ih q (by omega) (by omega) w
      have HD := Lib.hid (show Lib.decDigits n = Lib.decDigits q ++ [UInt8.ofNat (48 + k)] by rw [Lib.decDigits, dif_neg h10, hq, hk])
      have hlen : (Lib.decDigits q).length ≤ 25 := by
        have := Lib.itoa_length_le (q : Int) (by omega) (by omega)
        rw [Lib.itoa_nonneg] at this
        omega
      have c1 : ¬ (9223372036854775807 < (Lib.decDigits q).length + 1) := by omega
      have c2 : ¬ (9223372036854775807 < (⟨(Lib.decDigits q).toArray⟩ : ByteArray).size + (⟨#[UInt8.ofNat (48 + k)]⟩ : ByteArray).size) := by
        show ¬ (9223372036854775807 < (Lib.decDigits q).length + 1); omega
      generalize Lib.decDigits q = dq at *
      clear ih hq hk hlen
      go_enter Tryz.func91, Tryz.ntmps91
      go_wp2_with (first | (first | go_big_skip | ((with_reducible apply wpList_loadAll HO); exact rfl; exact rfl; (repeat (with_reducible (first | exact At.head _ | apply At.tail))); infer_instance; exact rfl; exact rfl; (simp only [Act.put, zA, zB, zC])) | ((with_reducible apply wpList_loadOne HO); exact rfl; exact rfl; (repeat (with_reducible (first | exact At.head _ | apply At.tail))); exact rfl; infer_instance; exact rfl; (simp only [Act.put, zA, zB, zC]))) | (first | ((with_reducible apply wpList_lit1 HO); exact rfl; infer_instance; infer_instance; exact rfl; exact rfl; exact (by decide); exact rfl; clear HO; intro bb w HO; (simp only [Act.put, zA, zB, zC])) | ((with_reducible apply wpList_lit1c HO); exact rfl; infer_instance; infer_instance; (first | (simp [Act.eval]; rfl) | exact rfl); exact rfl; exact rfl; clear HO; intro bb w HO; (simp only [Act.put, zA, zB, zC]))) | ((with_reducible apply wpList_strOne (n := 48 + k) HO); exact rfl; exact rfl; (repeat (with_reducible (first | exact At.head _ | apply At.tail))); (first | omega | (simp; done) | (simp; omega)); exact Tryz.underlying23; exact Tryz.underlying5; exact Tryz.underlying9; (first | omega | decide); exact rfl; (simp only [Act.put, zA, zB, zC])) | (go_at_call 91; go_must ((with_reducible refine (IH _).mono ?_); rintro e w ⟨rfl, hb⟩; replace HO := HO.call hb; clear hb)))
      go_ret
      exact ⟨by rw [HD.out, UInt8.ofNat_add]; first | rfl | (congr 3; simp) | simp, HO.grown⟩
end Go.Proofs.YtibabfedpdoofaaGreatDoor
namespace Go.Proofs.YtibabfedpdoofaaGreatDoor
open Go.RowKit Go.Own Go.Maps

/-- Where the document's core lies: its block, its slices. -/
structure RcA where
  r : Nat
  v : Value
  u : Value
  v0 : Value
  v1 : Value
  v2 : Value
def rcC (x : RcA) (A : InS) : List Value := [x.v, x.u, .int .i64 A.p0, .int .i64 A.q0, x.v0, .int .i64 A.p1, .int .i64 A.q1, x.v1, .int .i64 A.p2, .int .i64 A.q2, x.v2]
def rcB (x : RcA) (A : InS) : Ent := box x.r (.cells (rcC x A).toArray 152)
/-- What its slices are. -/
structure RcS (w : World) (x : RcA) (S : CoS) (A : InS) : Prop where
  l : IsL w 12 x.v (S.L.map sagaL)
  b : IsL w 5 x.u (S.P.map pstC)
  i0 : IsRows w x.v0 A.r0
  i1 : IsRows w x.v1 A.r1
  i2 : IsRows w x.v2 A.r2
/-- The same in any world where the pieces G stand. -/
def RcIn (W : World) (G : List Ent) (x : RcA) (S : CoS) (A : InS) : Prop := ∀ w' : World, Below W.heap.size W w' → (∀ e ∈ G, e.F w') → RcS w' x S A
def RowsF (W : World) (G : List Ent) (v : Value) (rs : List RowS) : Prop := ∀ w' : World, Below W.heap.size W w' → (∀ e ∈ G, e.F w') → IsRows w' v rs
theorem RowsF.old {W : World} {v : Value} {rs : List RowS} (h : IsRows W v rs) (G : List Ent) : RowsF W G v rs := fun _ hb _ => h.below hb h.lt
theorem RowsF.into {W : World} {G M : List Ent} {v : Value} {rs : List RowS} (h : RowsF W G v rs) (hm : ∀ e ∈ G, e ∈ M) : RowsIn W M v rs := fun w' _ hO hM => h w' hO.grown (fun e he => hO.has _ (hM e (hm e he)))
theorem RcIn.at {W w : World} {G L : List Ent} {x : RcA} {S : CoS} {A : InS} (h : RcIn W G x S A) (hO : Own W w L) (hm : ∀ e ∈ G, e ∈ L) : RcS w x S A := h w hO.grown (fun e he => hO.has _ (hm e he))
theorem RcIn.setL {W : World} {G : List Ent} {x : RcA} {S : CoS} {A : InS} (h : RcIn W G x S A) (v' : Value) (L' : List (OrdS × D6)) (t : TypeId) : RcIn W (row t 12 v' (L'.map sagaL) :: G) { x with v := v' } { S with L := L' } A := fun w' hb hF =>
  have h1 := h w' hb (fun e he => hF e (List.mem_cons_of_mem _ he))
  ⟨isL_of_owns (sagaL_len _) (hF _ List.mem_cons_self), h1.b, h1.i0, h1.i1, h1.i2⟩
theorem RcIn.setP {W : World} {G : List Ent} {x : RcA} {S : CoS} {A : InS} (h : RcIn W G x S A) (u' : Value) (P' : List Pst) (t : TypeId) : RcIn W (row t 5 u' (P'.map pstC) :: G) { x with u := u' } { S with P := P' } A := fun w' hb hF =>
  have h1 := h w' hb (fun e he => hF e (List.mem_cons_of_mem _ he))
  ⟨h1.l, isL_of_owns (pstC_len _) (hF _ List.mem_cons_self), h1.i0, h1.i1, h1.i2⟩
theorem RcIn.mono {W : World} {G H : List Ent} {x : RcA} {S : CoS} {A : InS} (h : RcIn W G x S A) (hs : ∀ e ∈ G, e ∈ H) : RcIn W H x S A := fun w' hb hF => h w' hb (fun e he => hF e (hs e he))
def rcNil (r : Nat) : RcA := ⟨r, .slice none 0 0, .slice none 0 0, .slice none 0 0, .slice none 0 0, .slice none 0 0⟩
theorem rcNil_in (W : World) (r : Nat) : RcIn W [] (rcNil r) ⟨[], []⟩ zeroI := fun _ _ _ => ⟨.none _ _ (fun _ => rfl), .none _ _ (fun _ => rfl), .none _ _ (fun _ => rfl), .none _ _ (fun _ => rfl), .none _ _ (fun _ => rfl)⟩

set_option maxHeartbeats 4000000 in
theorem rcNew_any (W : World) : Calls Tryz.prog 26 #[] W fun e w' => ∃ r, e = .returned (.pointer (some ⟨r, 0, none⟩)) ∧ Own W w' [rcB (rcNil r) zeroI] := by
  have HO := Own.start W
  go_enter Tryz.func26, Tryz.ntmps26
  go_wp2_with (first | (first | ((with_reducible apply wpList_boxAgg _ HO rfl); exact rfl; exact rfl; exact rfl; clear HO; intro b1 w HO; (simp only [Act.put, zA, zB, zC])) | ((with_reducible apply wpList_allocAgg _ HO rfl); exact rfl; infer_instance; exact rfl; clear HO; intro b1 w HO; (simp only [Act.put, zA, zB, zC]))) | go_big_skip)
  go_ret
  exact ⟨b1, rfl, HO⟩

set_option maxHeartbeats 8000000 in
set_option maxRecDepth 100000 in
theorem rcHas_any {w : World} {x : RcA} {S : CoS} {A : InS} (hb : w.heap[x.r]? = some (.cells (rcC x A).toArray 152)) (h : RcS w x S A) (ref : List UInt8) : Calls Tryz.prog 84 #[.pointer (some ⟨x.r, 0, none⟩), .string ⟨ref.toArray⟩] w fun e w' => e = .returned (.bool (hasL S.L ref)) ∧ Below w.heap.size w w' := by
  have HO := Own.start w
  obtain ⟨p, c, hv, hmx⟩ := h.l.slice
  rw [List.length_map] at hv hmx
  have HR := Lib.hid h.l
  have h0 := old_cell hb 0 rfl
  have hlt := old_lt hb
  have hmx' : (S.L.length : Int) ≤ 9223372036854775807 := by unfold maxLen at hmx; omega
  rw [hv] at h0
  generalize ha : x.v = av at *
  subst hv
  clear h ha hb
  generalize hg : hasL S.L ref = g0
  replace hg := Lib.hid hg
  go_enter Tryz.func84, Tryz.ntmps84
  go_wp2_with (first | go_big_skip)
  go_loopw [5] (fun i wr => ∃ j : Nat, j ≤ S.L.length ∧ i = .int .i64 (j : Int) ∧ hasL (S.L.take j) ref = false ∧ Own w wr []) (fun i _ => S.L.length - (intOf i).toNat)
  case atStart => exact ⟨0, by omega, rfl, rfl, HO⟩
  case round =>
    clear HO
    obtain ⟨j, hj, rfl, hnf, HO⟩ := hrel
    by_cases hjl : j < S.L.length
    · have hjI : (j : Int) < (S.L.length : Int) := by omega
      obtain ⟨b, rfl, hst⟩ := oldAt HR.out rfl hjl
      have HX := Lib.hid (show S.L[j].1.ref ≠ ref → hasL (S.L.take (j + 1)) ref = false from fun hx => by
        unfold hasL at hnf ⊢
        rw [List.take_succ_eq_append_getElem hjl, List.any_append, hnf]
        simpa using hx)
      have HY := Lib.hid (show S.L[j].1.ref = ref → hasL S.L ref = true from fun hx => by
        unfold hasL
        rw [List.any_eq_true]
        exact ⟨S.L[j], List.getElem_mem hjl, by simpa using hx⟩)
      clear hnf
      generalize S.L[j] = y at *
      obtain ⟨o, s⟩ := y
      unfold sagaL at hst
      have hs1 := fun w' (h1 : Own w w' []) => hst w' h1.grown 1 _ rfl
      clear hst
      by_cases hz : o.ref = ref
      · obtain rfl : g0 = true := hg.out.symm.trans (HY.out hz)
        have hD : (o.ref == ref) = true := by simpa using hz
        clear HX HY hz
        go_wp2_with (first | go_big_skip | ((with_reducible apply wpList_loadOld1 HO); exact rfl; exact rfl; exact hlt; exact h0; infer_instance; exact rfl; (simp only [Act.put, zA, zB, zC])) | ((with_reducible apply wpList_loadAt1 HO); exact rfl; exact rfl; exact (hs1); infer_instance; exact rfl; (simp only [Act.put, zA, zB, zC])))
        go_ret
        exact ⟨rfl, HO.grown⟩
      · have HZ := Lib.hid (HX.out hz)
        have hD : (o.ref == ref) = false := by simpa using hz
        clear HX HY hz
        go_wp2_with (first | go_big_skip | ((with_reducible apply wpList_loadOld1 HO); exact rfl; exact rfl; exact hlt; exact h0; infer_instance; exact rfl; (simp only [Act.put, zA, zB, zC])) | ((with_reducible apply wpList_loadAt1 HO); exact rfl; exact rfl; exact (hs1); infer_instance; exact rfl; (simp only [Act.put, zA, zB, zC])))
        go_roundw
        case rel => exact ⟨j + 1, by omega, by go_num, HZ.out, HO⟩
        case measure => simp [intOf] <;> omega
    · obtain rfl : j = S.L.length := by omega
      rw [List.take_length] at hnf
      obtain rfl : g0 = false := hg.out.symm.trans hnf
      clear hnf
      go_wp2_with (first | go_big_skip | ((with_reducible apply wpList_loadOld1 HO); exact rfl; exact rfl; exact hlt; exact h0; infer_instance; exact rfl; (simp only [Act.put, zA, zB, zC])))
      go_ret
      exact ⟨rfl, HO.grown⟩

theorem sagaL_one (l : List (OrdS × D6)) : ∀ u ∈ (l.map sagaL).flatten, u.oneCell' = true := by
  intro u hu
  obtain ⟨x, hx, hu⟩ := List.mem_flatten.1 hu
  obtain ⟨p, _, rfl⟩ := List.mem_map.1 hx
  simp only [sagaL, List.mem_cons, List.not_mem_nil, or_false] at hu
  rcases hu with rfl | rfl | rfl | rfl | rfl | rfl | rfl | rfl | rfl | rfl | rfl | rfl <;> rfl

set_option maxHeartbeats 8000000 in
set_option maxRecDepth 100000 in
theorem rcSet_any {W w : World} {M : List Ent} {x : RcA} {A : InS} {L : List (OrdS × D6)} (o : OrdS) (d : D6) {j : Nat} (HO : Own W w (rcB x A :: M)) (hl : ∀ (w' : World) (L' : List Ent), Own W w' L' → (∀ e ∈ M, e ∈ L') → IsL w' 12 x.v (L.map sagaL)) (hid : o.id = (j : Int) + 1) (hj : j < L.length) (hlen : L.length ≤ 1000) :
    Calls Tryz.prog 87 #[.pointer (some ⟨x.r, 0, none⟩), sagaV o d] w fun e w' => e = .returned (.tuple #[]) ∧ ∃ v', Own W w' (rcB { x with v := v' } A :: row 124 12 v' ((L.set j (o, d)).map sagaL) :: M) := by
  obtain ⟨r, v, u, v0, v1, v2⟩ := x
  have HL := Lib.hid (sagaL_len L)
  have H1 := Lib.hid (sagaL_one L)
  have HU := Lib.hid hl
  obtain ⟨p, c, hv, -⟩ := (hl _ _ HO (fun e he => List.mem_cons_of_mem _ he)).slice
  simp only at hv
  subst hv
  rw [List.length_map] at HO
  rw [List.length_map] at HU
  have hset := Lib.hid (show (L.set j (o, d)).map sagaL = (L.map sagaL).set j (sagaL (o, d)) from List.map_set ..)
  have hjm : j < (L.map sagaL).length := by simpa using hj
  have hjI : (j : Int) < (L.length : Int) := by omega
  have e1 : IntKind.i64.wrap ((j : Int) + 1 - 1) = (j : Int) := by rw [show (j : Int) + 1 - 1 = (j : Int) by omega, wrap_in (inI_iff.2 (by omega))]
  have hlm : ([] : List (List Value)).length + (L.map sagaL).length ≤ 1000000 := by rw [List.length_map]; simp; omega
  clear hl
  unfold rcB rcC at HO
  obtain ⟨oid, oref, osku, oq, oa⟩ := o
  simp only at hid HO
  replace HO := HO.nil 124 12
  replace HO := HO.swap
  unfold rcB rcC
  simp only [sagaV]
  have e2 : IntKind.i64.wrap (oid - 1) = (j : Int) := by rw [hid]; exact e1
  clear e1 hid
  go_enter Tryz.func87, Tryz.ntmps87
  go_wp2_with (first | go_big_skip | (first | go_big_skip | ((with_reducible apply wpList_loadAll HO); exact rfl; exact rfl; (repeat (with_reducible (first | exact At.head _ | apply At.tail))); infer_instance; exact rfl; exact rfl; (simp only [Act.put, zA, zB, zC])) | ((with_reducible apply wpList_loadOne HO); exact rfl; exact rfl; (repeat (with_reducible (first | exact At.head _ | apply At.tail))); exact rfl; infer_instance; exact rfl; (simp only [Act.put, zA, zB, zC]))) | (first | ((with_reducible apply wpList_boxAgg _ HO rfl); exact rfl; exact rfl; exact rfl; clear HO; intro b3 w HO; (simp only [Act.put, zA, zB, zC])) | ((with_reducible apply wpList_allocAgg _ HO rfl); exact rfl; infer_instance; exact rfl; clear HO; intro b3 w HO; (simp only [Act.put, zA, zB, zC]))) | ((with_reducible apply wpList_storeOne HO); exact rfl; exact rfl; (first | (simp [Act.eval]; rfl) | exact rfl); exact rfl; (repeat (with_reducible (first | exact At.head _ | apply At.tail))); infer_instance; exact (by simp); (simp only [List.set_cons_zero]; rfl); exact rfl; clear HO; intro w HO; (simp only [Act.put])) | (((with_reducible apply wpList_appendAll HO); exact rfl; infer_instance; infer_instance; (first | (simp [Act.eval]; rfl) | exact rfl); exact rfl; exact (HU.out _ _ HO (by intro e he; repeat (first | exact he | apply List.mem_cons_of_mem))); exact HL.out; exact H1.out; intro _; (repeat (with_reducible (first | exact At.head _ | apply At.tail))); (first | omega | (simp; omega)); decide; exact rfl; clear HO; intro v2 w HO hv2; (simp only [Act.put, zA, zB, zC])); (obtain ⟨p2, n2, c2, rfl⟩ := hv2)))
  obtain ⟨⟨p3, c3, hv3⟩, hv4⟩ := HO.rowForm (t := 124) (k := 12) (v := .slice p2 n2 c2) (by (repeat (with_reducible (first | exact At.head _ | apply At.tail))))
  obtain ⟨q2, c4, hv5⟩ := hv4 (by simp; omega)
  cases hv5
  clear hv3
  simp only [List.nil_append, List.length_map] at HO ⊢
  go_upto_region 2 with (first | ((with_reducible apply wpList_storeOne HO); exact rfl; exact rfl; (first | (simp [Act.eval]; rfl) | exact rfl); exact rfl; (repeat (with_reducible (first | exact At.head _ | apply At.tail))); infer_instance; exact (by simp); (simp only [List.set_cons_succ, List.set_cons_zero]; rfl); exact rfl; clear HO; intro w HO; (simp only [Act.put])))
  refine region_sched2 ([box b3 (.cells #[.int .i64 oid, .string ⟨oref.toArray⟩, .string ⟨osku.toArray⟩, .int .i64 oq, .int .i64 oa, .int .i64 d.a, .int .i64 d.b, .int .i64 d.c, .int .i64 d.d, .int .i64 d.e, .int .i64 d.f, .bool d.x] 124), box r (.cells #[.slice (some q2) L.length c2, u, .int .i64 A.p0, .int .i64 A.q0, v0, .int .i64 A.p1, .int .i64 A.q1, v1, .int .i64 A.p2, .int .i64 A.q2, v2] 152)]) [(0, true), (1, true), (2, true), (3, true), (4, true), (5, true), (6, true), (7, true), (8, true), (9, true), (10, false)] HO (by with_reducible (repeat (first | exact List.nil_sublist _ | apply List.Sublist.cons_cons | apply List.Sublist.cons))) (by kernel_rfl) (by kernel_rfl) ?_
  clear HO
  intro w HO
  repeat (first | ((with_reducible apply wpSched_loadOne); exact rfl; exact rfl; exact rfl; (repeat (with_reducible (first | exact At.head _ | apply At.tail))); exact rfl; infer_instance; exact rfl; (simp only [Act.put, zA, zB, zC])) | ((with_reducible apply wpSched_loadAll); exact rfl; exact rfl; exact rfl; (repeat (with_reducible (first | exact At.head _ | apply At.tail))); infer_instance; exact rfl; exact rfl; (simp only [Act.put, zA, zB, zC])) | ((with_reducible apply wpSched_pure); exact rfl; exact rfl; (intro w'; go_simp; try with_reducible rfl); (simp only [Act.put, zA, zB, zC])))
  ((with_reducible apply wpSched_loud); exact rfl; ((with_reducible apply wpList_storeRow HO); exact rfl; exact rfl; (first | (simp [Act.eval]; rfl) | exact rfl); exact rfl; (repeat (with_reducible (first | exact At.head _ | apply At.tail))); exact (HL.out); (simp; omega); exact rfl; infer_instance; exact rfl; exact rfl; clear HO; intro w HO; (simp only [Act.put])))
  refine wpList_nil (thenQ_free (by kernel_rfl) ?_)
  refine wpSched_end ?_
  go_end0
  refine ⟨rfl, .slice (some q2) L.length c2, ?_⟩
  rw [hset.out]
  exact HO.tail

set_option maxHeartbeats 8000000 in
set_option maxRecDepth 100000 in
theorem rcPost_any {W w : World} {M : List Ent} {x : RcA} {A : InS} {P : List Pst} (id : ByteArray) (o d c a : Int) (HO : Own W w (rcB x A :: M)) (hl : ∀ (w' : World) (L' : List Ent), Own W w' L' → (∀ e ∈ M, e ∈ L') → IsL w' 5 x.u (P.map pstC)) (hlen : P.length ≤ 100000) :
    Calls Tryz.prog 92 #[.pointer (some ⟨x.r, 0, none⟩), .string id, .int .i64 o, .int .i64 d, .int .i64 c, .int .i64 a] w fun e w' => e = .returned (.tuple #[]) ∧ ∃ u', Own W w' (rcB { x with u := u' } A :: row 187 5 u' ((P ++ [(⟨id, o, d, c, a⟩ : Pst)]).map pstC) :: M) := by
  obtain ⟨r, v, u, v0, v1, v2⟩ := x
  have HL := Lib.hid (pstC_len P)
  have H1 := Lib.hid (pstC_one P)
  have HU := Lib.hid hl
  obtain ⟨p, cc, hv, -⟩ := (hl _ _ HO (fun e he => List.mem_cons_of_mem _ he)).slice
  simp only at hv
  subst hv
  rw [List.length_map] at HO
  rw [List.length_map] at HU
  have hpc := Lib.hid (show (P ++ [(⟨id, o, d, c, a⟩ : Pst)]).map pstC = P.map pstC ++ [[.string id, .int .i64 o, .int .i64 d, .int .i64 c, .int .i64 a]] by simp [pstC])
  have hlm : ([] : List (List Value)).length + (P.map pstC).length ≤ 1000000 := by rw [List.length_map]; simp; omega
  have hlm2 : ([] ++ P.map pstC).length + 1 ≤ 1000000 := by rw [List.nil_append, List.length_map]; omega
  clear hl
  unfold rcB rcC at HO
  simp only at HO
  replace HO := HO.nil 187 5
  replace HO := HO.swap
  unfold rcB rcC
  go_enter Tryz.func92, Tryz.ntmps92
  go_wp2_with (first | go_big_skip | (first | go_big_skip | ((with_reducible apply wpList_loadAll HO); exact rfl; exact rfl; (repeat (with_reducible (first | exact At.head _ | apply At.tail))); infer_instance; exact rfl; exact rfl; (simp only [Act.put, zA, zB, zC])) | ((with_reducible apply wpList_loadOne HO); exact rfl; exact rfl; (repeat (with_reducible (first | exact At.head _ | apply At.tail))); exact rfl; infer_instance; exact rfl; (simp only [Act.put, zA, zB, zC]))) | (first | ((with_reducible apply wpList_lit1 HO); exact rfl; infer_instance; infer_instance; exact rfl; exact rfl; exact (by decide); exact rfl; clear HO; intro bl w HO; (simp only [Act.put, zA, zB, zC])) | ((with_reducible apply wpList_lit1c HO); exact rfl; infer_instance; infer_instance; (first | (simp [Act.eval]; rfl) | exact rfl); exact rfl; exact rfl; clear HO; intro bl w HO; (simp only [Act.put, zA, zB, zC]))) | (((with_reducible apply wpList_push1 HO); exact rfl; infer_instance; infer_instance; (first | (simp [Act.eval]; rfl) | exact rfl); exact rfl; intro _; (repeat (with_reducible (first | exact At.head _ | apply At.tail))); exact rfl; exact rfl; (first | omega | (simp; omega)); decide; exact rfl; clear HO; intro v2 w HO hv2; (simp only [Act.put, zA, zB, zC])); (obtain ⟨p2, n2, c2, rfl⟩ := hv2)) | ((with_reducible apply wpList_storeOne HO); exact rfl; exact rfl; (first | (simp [Act.eval]; rfl) | exact rfl); exact rfl; (repeat (with_reducible (first | exact At.head _ | apply At.tail))); infer_instance; exact (by simp); (simp only [List.set_cons_succ, List.set_cons_zero]; rfl); exact rfl; clear HO; intro w HO; (simp only [Act.put])) | ((with_reducible apply wpList_appendAll HO); exact rfl; infer_instance; infer_instance; (first | (simp [Act.eval]; rfl) | exact rfl); exact rfl; exact (HU.out _ _ HO (by intro e he; repeat (first | exact he | apply List.mem_cons_of_mem))); exact HL.out; exact H1.out; intro _; (repeat (with_reducible (first | exact At.head _ | apply At.tail))); (first | omega | (simp; omega)); decide; exact rfl; clear HO; intro v2 w HO hv2; (simp only [Act.put, zA, zB, zC])))
  go_end0
  refine ⟨rfl, .slice p2 n2 c2, ?_⟩
  simpa [pstC] using HO
end Go.Proofs.YtibabfedpdoofaaGreatDoor
namespace Go.Proofs.YtibabfedpdoofaaGreatDoor
open Go.RowKit Go.Own

set_option maxHeartbeats 8000000 in
set_option maxRecDepth 100000 in
theorem refOn_any (o : OrdS) (s : D6) (w : World) : Calls Tryz.prog 133 #[sagaV o s] w fun e w' => e = .returned (sagaV o (onOf s)) ∧ Below w.heap.size w w' := by
  have B := fun w => refBack_any o s w
  obtain ⟨a, b, c, d, e, f, x⟩ := s
  cases hk : backOf ⟨a, b, c, d, e, f, x⟩
  · rw [(show sagaV o ⟨a, b, c, d, e, f, x⟩ = .agg #[.int .i64 o.id, .string ⟨o.ref.toArray⟩, .string ⟨o.sku.toArray⟩, .int .i64 o.qty, .int .i64 o.amt, .int .i64 a, .int .i64 b, .int .i64 c, .int .i64 d, .int .i64 e, .int .i64 f, .bool x] from rfl), hk] at B
    rw [(show sagaV o ⟨a, b, c, d, e, f, x⟩ = .agg #[.int .i64 o.id, .string ⟨o.ref.toArray⟩, .string ⟨o.sku.toArray⟩, .int .i64 o.qty, .int .i64 o.amt, .int .i64 a, .int .i64 b, .int .i64 c, .int .i64 d, .int .i64 e, .int .i64 f, .bool x] from rfl)]
    by_cases ha : a = 0
    · have HQ := Lib.hid (show onOf ⟨a, b, c, d, e, f, x⟩ = ⟨1, b, c, d, e, f, x⟩ from (onOf_fwd hk).trans (by simp [ha]))
      have hab : (a == 0) = true := by simpa using ha
      clear hk ha
      go_enter Tryz.func133, Tryz.ntmps133
      go_wp2_with (go_at_call 124; go_must ((with_reducible refine (B _).mono ?_); rintro e w1 ⟨rfl, hb⟩; obtain ⟨hc, hf⟩ := bcell hb; have hz := hb.size; (try simp at hz); (try have hzT := Nat.lt_of_succ_le hz); have hzA : w.heap.size < w1.heap.size := (by omega); have hzB : w.heap.size + 1 < w1.heap.size := (by omega); have hzA2 := Nat.le_of_lt hzA; have hzB2 := Nat.le_of_lt hzB))
      obtain ⟨L1, L2, f1, f2⟩ := after2 hb; have k0 := L1 0 _ rfl; have k1 := L1 1 _ rfl; have k2 := L1 2 _ rfl; have k3 := L1 3 _ rfl; have k4 := L1 4 _ rfl; have k5 := L1 5 _ rfl; have k6 := L1 6 _ rfl; have k7 := L1 7 _ rfl; have k8 := L1 8 _ rfl; have k9 := L1 9 _ rfl; have k10 := L1 10 _ rfl; have k11 := L1 11 _ rfl; have m0 := L2 0 _ rfl; have m1 := L2 1 _ rfl; have m2 := L2 2 _ rfl; have m3 := L2 3 _ rfl; have m4 := L2 4 _ rfl; have m5 := L2 5 _ rfl; have m6 := L2 6 _ rfl; have m7 := L2 7 _ rfl; have m8 := L2 8 _ rfl; have m9 := L2 9 _ rfl; have m10 := L2 10 _ rfl; have m11 := L2 11 _ rfl; clear L1 L2 hc hf
      refine wp_loop_rounds 4 ?_
      rw [rounds_succ]
      go_wp2_with fail
      all_goals (try (rw [rounds_succ]; go_wp2_with fail))
      all_goals (try (rw [rounds_succ]; go_wp2_with fail))
      all_goals (try (rw [rounds_succ]; go_wp2_with fail))
      refine bodyPost_ret (v := sagaV o ⟨1, b, c, d, e, f, x⟩) (by unfold sagaV; simp [results, Tryz.results133, go_sem, *]) rfl ⟨by rw [HQ.out], (by with_reducible (repeat (first | assumption | exact Below.refl _ _ | refine Below.drew ?_ | refine below_drewN ?_ _ | refine Below.alloc ?_ (by first | (simp; done) | omega | (simp; omega)) _ | refine Below.setCell ?_ (by first | (simp; done) | omega | (simp; omega)) _ | refine Below.trans ?_ (Below.mono (by assumption) (by first | (simp; done) | omega | (simp; omega))))))⟩
    · have hab : (a == 0) = false := by simpa using ha
      by_cases hb : b = 0
      · have HQ := Lib.hid (show onOf ⟨a, b, c, d, e, f, x⟩ = ⟨a, 1, c, d, e, f, x⟩ from (onOf_fwd hk).trans (by simp [ha, hb]))
        have hbb : (b == 0) = true := by simpa using hb
        clear hk hb ha
        go_enter Tryz.func133, Tryz.ntmps133
        go_wp2_with (go_at_call 124; go_must ((with_reducible refine (B _).mono ?_); rintro e w1 ⟨rfl, hb⟩; obtain ⟨hc, hf⟩ := bcell hb; have hz := hb.size; (try simp at hz); (try have hzT := Nat.lt_of_succ_le hz); have hzA : w.heap.size < w1.heap.size := (by omega); have hzB : w.heap.size + 1 < w1.heap.size := (by omega); have hzA2 := Nat.le_of_lt hzA; have hzB2 := Nat.le_of_lt hzB))
        obtain ⟨L1, L2, f1, f2⟩ := after2 hb; have k0 := L1 0 _ rfl; have k1 := L1 1 _ rfl; have k2 := L1 2 _ rfl; have k3 := L1 3 _ rfl; have k4 := L1 4 _ rfl; have k5 := L1 5 _ rfl; have k6 := L1 6 _ rfl; have k7 := L1 7 _ rfl; have k8 := L1 8 _ rfl; have k9 := L1 9 _ rfl; have k10 := L1 10 _ rfl; have k11 := L1 11 _ rfl; have m0 := L2 0 _ rfl; have m1 := L2 1 _ rfl; have m2 := L2 2 _ rfl; have m3 := L2 3 _ rfl; have m4 := L2 4 _ rfl; have m5 := L2 5 _ rfl; have m6 := L2 6 _ rfl; have m7 := L2 7 _ rfl; have m8 := L2 8 _ rfl; have m9 := L2 9 _ rfl; have m10 := L2 10 _ rfl; have m11 := L2 11 _ rfl; clear L1 L2 hc hf
        refine wp_loop_rounds 4 ?_
        rw [rounds_succ]
        go_wp2_with fail
        all_goals (try (rw [rounds_succ]; go_wp2_with fail))
        all_goals (try (rw [rounds_succ]; go_wp2_with fail))
        all_goals (try (rw [rounds_succ]; go_wp2_with fail))
        refine bodyPost_ret (v := sagaV o ⟨a, 1, c, d, e, f, x⟩) (by unfold sagaV; simp [results, Tryz.results133, go_sem, *]) rfl ⟨by rw [HQ.out], (by with_reducible (repeat (first | assumption | exact Below.refl _ _ | refine Below.drew ?_ | refine below_drewN ?_ _ | refine Below.alloc ?_ (by first | (simp; done) | omega | (simp; omega)) _ | refine Below.setCell ?_ (by first | (simp; done) | omega | (simp; omega)) _ | refine Below.trans ?_ (Below.mono (by assumption) (by first | (simp; done) | omega | (simp; omega))))))⟩
      · have hbb : (b == 0) = false := by simpa using hb
        by_cases hc : c = 0
        · have HQ := Lib.hid (show onOf ⟨a, b, c, d, e, f, x⟩ = ⟨a, b, 1, d, e, f, x⟩ from (onOf_fwd hk).trans (by simp [ha, hb, hc]))
          have hcb : (c == 0) = true := by simpa using hc
          clear hk hc ha hb
          go_enter Tryz.func133, Tryz.ntmps133
          go_wp2_with (go_at_call 124; go_must ((with_reducible refine (B _).mono ?_); rintro e w1 ⟨rfl, hb⟩; obtain ⟨hc, hf⟩ := bcell hb; have hz := hb.size; (try simp at hz); (try have hzT := Nat.lt_of_succ_le hz); have hzA : w.heap.size < w1.heap.size := (by omega); have hzB : w.heap.size + 1 < w1.heap.size := (by omega); have hzA2 := Nat.le_of_lt hzA; have hzB2 := Nat.le_of_lt hzB))
          obtain ⟨L1, L2, f1, f2⟩ := after2 hb; have k0 := L1 0 _ rfl; have k1 := L1 1 _ rfl; have k2 := L1 2 _ rfl; have k3 := L1 3 _ rfl; have k4 := L1 4 _ rfl; have k5 := L1 5 _ rfl; have k6 := L1 6 _ rfl; have k7 := L1 7 _ rfl; have k8 := L1 8 _ rfl; have k9 := L1 9 _ rfl; have k10 := L1 10 _ rfl; have k11 := L1 11 _ rfl; have m0 := L2 0 _ rfl; have m1 := L2 1 _ rfl; have m2 := L2 2 _ rfl; have m3 := L2 3 _ rfl; have m4 := L2 4 _ rfl; have m5 := L2 5 _ rfl; have m6 := L2 6 _ rfl; have m7 := L2 7 _ rfl; have m8 := L2 8 _ rfl; have m9 := L2 9 _ rfl; have m10 := L2 10 _ rfl; have m11 := L2 11 _ rfl; clear L1 L2 hc hf
          refine wp_loop_rounds 4 ?_
          rw [rounds_succ]
          go_wp2_with fail
          all_goals (try (rw [rounds_succ]; go_wp2_with fail))
          all_goals (try (rw [rounds_succ]; go_wp2_with fail))
          all_goals (try (rw [rounds_succ]; go_wp2_with fail))
          refine bodyPost_ret (v := sagaV o ⟨a, b, 1, d, e, f, x⟩) (by unfold sagaV; simp [results, Tryz.results133, go_sem, *]) rfl ⟨by rw [HQ.out], (by with_reducible (repeat (first | assumption | exact Below.refl _ _ | refine Below.drew ?_ | refine below_drewN ?_ _ | refine Below.alloc ?_ (by first | (simp; done) | omega | (simp; omega)) _ | refine Below.setCell ?_ (by first | (simp; done) | omega | (simp; omega)) _ | refine Below.trans ?_ (Below.mono (by assumption) (by first | (simp; done) | omega | (simp; omega))))))⟩
        · have hcb : (c == 0) = false := by simpa using hc
          have HQ := Lib.hid (show onOf ⟨a, b, c, d, e, f, x⟩ = ⟨a, b, c, d, e, f, x⟩ from (onOf_fwd hk).trans (by simp [ha, hb, hc]))
          clear hk ha hb hc
          go_enter Tryz.func133, Tryz.ntmps133
          go_wp2_with (go_at_call 124; go_must ((with_reducible refine (B _).mono ?_); rintro e w1 ⟨rfl, hb⟩; obtain ⟨hc, hf⟩ := bcell hb; have hz := hb.size; (try simp at hz); (try have hzT := Nat.lt_of_succ_le hz); have hzA : w.heap.size < w1.heap.size := (by omega); have hzB : w.heap.size + 1 < w1.heap.size := (by omega); have hzA2 := Nat.le_of_lt hzA; have hzB2 := Nat.le_of_lt hzB))
          obtain ⟨L1, L2, f1, f2⟩ := after2 hb; have k0 := L1 0 _ rfl; have k1 := L1 1 _ rfl; have k2 := L1 2 _ rfl; have k3 := L1 3 _ rfl; have k4 := L1 4 _ rfl; have k5 := L1 5 _ rfl; have k6 := L1 6 _ rfl; have k7 := L1 7 _ rfl; have k8 := L1 8 _ rfl; have k9 := L1 9 _ rfl; have k10 := L1 10 _ rfl; have k11 := L1 11 _ rfl; have m0 := L2 0 _ rfl; have m1 := L2 1 _ rfl; have m2 := L2 2 _ rfl; have m3 := L2 3 _ rfl; have m4 := L2 4 _ rfl; have m5 := L2 5 _ rfl; have m6 := L2 6 _ rfl; have m7 := L2 7 _ rfl; have m8 := L2 8 _ rfl; have m9 := L2 9 _ rfl; have m10 := L2 10 _ rfl; have m11 := L2 11 _ rfl; clear L1 L2 hc hf
          refine wp_loop_rounds 4 ?_
          rw [rounds_succ]
          go_wp2_with fail
          all_goals (try (rw [rounds_succ]; go_wp2_with fail))
          all_goals (try (rw [rounds_succ]; go_wp2_with fail))
          all_goals (try (rw [rounds_succ]; go_wp2_with fail))
          refine bodyPost_ret (v := sagaV o ⟨a, b, c, d, e, f, x⟩) (by unfold sagaV; simp [results, Tryz.results133, go_sem, *]) rfl ⟨by rw [HQ.out], (by with_reducible (repeat (first | assumption | exact Below.refl _ _ | refine Below.drew ?_ | refine below_drewN ?_ _ | refine Below.alloc ?_ (by first | (simp; done) | omega | (simp; omega)) _ | refine Below.setCell ?_ (by first | (simp; done) | omega | (simp; omega)) _ | refine Below.trans ?_ (Below.mono (by assumption) (by first | (simp; done) | omega | (simp; omega))))))⟩
  · rw [(show sagaV o ⟨a, b, c, d, e, f, x⟩ = .agg #[.int .i64 o.id, .string ⟨o.ref.toArray⟩, .string ⟨o.sku.toArray⟩, .int .i64 o.qty, .int .i64 o.amt, .int .i64 a, .int .i64 b, .int .i64 c, .int .i64 d, .int .i64 e, .int .i64 f, .bool x] from rfl), hk] at B
    rw [(show sagaV o ⟨a, b, c, d, e, f, x⟩ = .agg #[.int .i64 o.id, .string ⟨o.ref.toArray⟩, .string ⟨o.sku.toArray⟩, .int .i64 o.qty, .int .i64 o.amt, .int .i64 a, .int .i64 b, .int .i64 c, .int .i64 d, .int .i64 e, .int .i64 f, .bool x] from rfl)]
    have HK := Lib.hid hk
    clear hk
    go_enter Tryz.func133, Tryz.ntmps133
    go_wp2_with (go_at_call 124; go_must ((with_reducible refine (B _).mono ?_); rintro e w1 ⟨rfl, hb⟩; obtain ⟨hc, hf⟩ := bcell hb; have hz := hb.size; (try simp at hz); (try have hzT := Nat.lt_of_succ_le hz); have hzA : w.heap.size < w1.heap.size := (by omega); have hzB : w.heap.size + 1 < w1.heap.size := (by omega); have hzA2 := Nat.le_of_lt hzA; have hzB2 := Nat.le_of_lt hzB))
    obtain ⟨L1, L2, f1, f2⟩ := after2 hb; have k0 := L1 0 _ rfl; have k1 := L1 1 _ rfl; have k2 := L1 2 _ rfl; have k3 := L1 3 _ rfl; have k4 := L1 4 _ rfl; have k5 := L1 5 _ rfl; have k6 := L1 6 _ rfl; have k7 := L1 7 _ rfl; have k8 := L1 8 _ rfl; have k9 := L1 9 _ rfl; have k10 := L1 10 _ rfl; have k11 := L1 11 _ rfl; have m0 := L2 0 _ rfl; have m1 := L2 1 _ rfl; have m2 := L2 2 _ rfl; have m3 := L2 3 _ rfl; have m4 := L2 4 _ rfl; have m5 := L2 5 _ rfl; have m6 := L2 6 _ rfl; have m7 := L2 7 _ rfl; have m8 := L2 8 _ rfl; have m9 := L2 9 _ rfl; have m10 := L2 10 _ rfl; have m11 := L2 11 _ rfl; clear L1 L2 hc hf
    go_loop [4] (fun k => k = .int .i64 2 ∨ (k = .int .i64 1 ∧ ¬ ((c = 2 ∨ c = 4) ∧ f = 0)) ∨ (k = .int .i64 0 ∧ ¬ ((c = 2 ∨ c = 4) ∧ f = 0) ∧ ¬ ((b = 2 ∨ b = 4) ∧ e = 0)) ∨ (k = .int .i64 (-1) ∧ ¬ ((c = 2 ∨ c = 4) ∧ f = 0) ∧ ¬ ((b = 2 ∨ b = 4) ∧ e = 0) ∧ ¬ ((a = 2 ∨ a = 4) ∧ d = 0))) (fun k => (intOf k + 1).toNat)
    case atStart => exact .inl rfl
    case round =>
      rcases hrel with rfl | ⟨rfl, n2⟩ | ⟨rfl, n2, n1⟩ | ⟨rfl, n2, n1, n0⟩
      · by_cases hu : f = 0
        · by_cases h2 : c = 2
          · have HQ := Lib.hid (show onOf ⟨a, b, c, d, e, f, x⟩ = ⟨a, b, c, d, e, 1, x⟩ from (onOf_bwd HK.out).trans (by simp [hu, h2]))
            have hub : (f == 0) = true := by simpa using hu
            have h2b : (c == 2) = true := by simpa using h2
            clear hu h2
            go_wp2_with fail
            refine bodyPost_ret (v := sagaV o ⟨a, b, c, d, e, 1, x⟩) (by unfold sagaV; simp [results, Tryz.results133, go_sem, *]) rfl ⟨by rw [HQ.out], (by with_reducible (repeat (first | assumption | exact Below.refl _ _ | refine Below.drew ?_ | refine below_drewN ?_ _ | refine Below.alloc ?_ (by first | (simp; done) | omega | (simp; omega)) _ | refine Below.setCell ?_ (by first | (simp; done) | omega | (simp; omega)) _ | refine Below.trans ?_ (Below.mono (by assumption) (by first | (simp; done) | omega | (simp; omega))))))⟩
          · by_cases h4 : c = 4
            · have HQ := Lib.hid (show onOf ⟨a, b, c, d, e, f, x⟩ = ⟨a, b, c, d, e, 1, x⟩ from (onOf_bwd HK.out).trans (by simp [hu, h4]))
              have hub : (f == 0) = true := by simpa using hu
              have h2b : (c == 2) = false := by simpa using h2
              have h4b : (c == 4) = true := by simpa using h4
              clear hu h2 h4
              go_wp2_with fail
              refine bodyPost_ret (v := sagaV o ⟨a, b, c, d, e, 1, x⟩) (by unfold sagaV; simp [results, Tryz.results133, go_sem, *]) rfl ⟨by rw [HQ.out], (by with_reducible (repeat (first | assumption | exact Below.refl _ _ | refine Below.drew ?_ | refine below_drewN ?_ _ | refine Below.alloc ?_ (by first | (simp; done) | omega | (simp; omega)) _ | refine Below.setCell ?_ (by first | (simp; done) | omega | (simp; omega)) _ | refine Below.trans ?_ (Below.mono (by assumption) (by first | (simp; done) | omega | (simp; omega))))))⟩
            · have h2b : (c == 2) = false := by simpa using h2
              have h4b : (c == 4) = false := by simpa using h4
              have NN := Lib.hid (show ¬ ((c = 2 ∨ c = 4) ∧ f = 0) from fun h => h.1.elim h2 h4)
              clear hu h2 h4
              go_wp2_with fail
              go_round
              case rel => exact .inr (.inl ⟨rfl, NN.out⟩)
              case measure => simp [intOf] <;> omega
        · have NN := Lib.hid (show ¬ ((c = 2 ∨ c = 4) ∧ f = 0) from fun h => hu h.2)
          have hub : (f == 0) = false := by simpa using hu
          clear hu
          by_cases h2 : c = 2
          · have h2b : (c == 2) = true := by simpa using h2
            clear h2
            go_wp2_with fail
            go_round
            case rel => exact .inr (.inl ⟨rfl, NN.out⟩)
            case measure => simp [intOf] <;> omega
          · have h2b : (c == 2) = false := by simpa using h2
            clear h2
            by_cases h4 : c = 4
            · have h4b : (c == 4) = true := by simpa using h4
              clear h4
              go_wp2_with fail
              go_round
              case rel => exact .inr (.inl ⟨rfl, NN.out⟩)
              case measure => simp [intOf] <;> omega
            · have h4b : (c == 4) = false := by simpa using h4
              clear h4
              go_wp2_with fail
              go_round
              case rel => exact .inr (.inl ⟨rfl, NN.out⟩)
              case measure => simp [intOf] <;> omega
      · have N2 := Lib.hid n2
        clear n2
        by_cases hu : e = 0
        · by_cases h2 : b = 2
          · have HQ := Lib.hid (show onOf ⟨a, b, c, d, e, f, x⟩ = ⟨a, b, c, d, 1, f, x⟩ from (onOf_bwd HK.out).trans (by rw [if_neg N2.out]; simp [hu, h2]))
            have hub : (e == 0) = true := by simpa using hu
            have h2b : (b == 2) = true := by simpa using h2
            clear hu h2
            go_wp2_with fail
            refine bodyPost_ret (v := sagaV o ⟨a, b, c, d, 1, f, x⟩) (by unfold sagaV; simp [results, Tryz.results133, go_sem, *]) rfl ⟨by rw [HQ.out], (by with_reducible (repeat (first | assumption | exact Below.refl _ _ | refine Below.drew ?_ | refine below_drewN ?_ _ | refine Below.alloc ?_ (by first | (simp; done) | omega | (simp; omega)) _ | refine Below.setCell ?_ (by first | (simp; done) | omega | (simp; omega)) _ | refine Below.trans ?_ (Below.mono (by assumption) (by first | (simp; done) | omega | (simp; omega))))))⟩
          · by_cases h4 : b = 4
            · have HQ := Lib.hid (show onOf ⟨a, b, c, d, e, f, x⟩ = ⟨a, b, c, d, 1, f, x⟩ from (onOf_bwd HK.out).trans (by rw [if_neg N2.out]; simp [hu, h4]))
              have hub : (e == 0) = true := by simpa using hu
              have h2b : (b == 2) = false := by simpa using h2
              have h4b : (b == 4) = true := by simpa using h4
              clear hu h2 h4
              go_wp2_with fail
              refine bodyPost_ret (v := sagaV o ⟨a, b, c, d, 1, f, x⟩) (by unfold sagaV; simp [results, Tryz.results133, go_sem, *]) rfl ⟨by rw [HQ.out], (by with_reducible (repeat (first | assumption | exact Below.refl _ _ | refine Below.drew ?_ | refine below_drewN ?_ _ | refine Below.alloc ?_ (by first | (simp; done) | omega | (simp; omega)) _ | refine Below.setCell ?_ (by first | (simp; done) | omega | (simp; omega)) _ | refine Below.trans ?_ (Below.mono (by assumption) (by first | (simp; done) | omega | (simp; omega))))))⟩
            · have h2b : (b == 2) = false := by simpa using h2
              have h4b : (b == 4) = false := by simpa using h4
              have NN := Lib.hid (show ¬ ((b = 2 ∨ b = 4) ∧ e = 0) from fun h => h.1.elim h2 h4)
              clear hu h2 h4
              go_wp2_with fail
              go_round
              case rel => exact .inr (.inr (.inl ⟨rfl, N2.out, NN.out⟩))
              case measure => simp [intOf] <;> omega
        · have NN := Lib.hid (show ¬ ((b = 2 ∨ b = 4) ∧ e = 0) from fun h => hu h.2)
          have hub : (e == 0) = false := by simpa using hu
          clear hu
          by_cases h2 : b = 2
          · have h2b : (b == 2) = true := by simpa using h2
            clear h2
            go_wp2_with fail
            go_round
            case rel => exact .inr (.inr (.inl ⟨rfl, N2.out, NN.out⟩))
            case measure => simp [intOf] <;> omega
          · have h2b : (b == 2) = false := by simpa using h2
            clear h2
            by_cases h4 : b = 4
            · have h4b : (b == 4) = true := by simpa using h4
              clear h4
              go_wp2_with fail
              go_round
              case rel => exact .inr (.inr (.inl ⟨rfl, N2.out, NN.out⟩))
              case measure => simp [intOf] <;> omega
            · have h4b : (b == 4) = false := by simpa using h4
              clear h4
              go_wp2_with fail
              go_round
              case rel => exact .inr (.inr (.inl ⟨rfl, N2.out, NN.out⟩))
              case measure => simp [intOf] <;> omega
      · have N2 := Lib.hid n2
        clear n2
        have N1 := Lib.hid n1
        clear n1
        by_cases hu : d = 0
        · by_cases h2 : a = 2
          · have HQ := Lib.hid (show onOf ⟨a, b, c, d, e, f, x⟩ = ⟨a, b, c, 1, e, f, x⟩ from (onOf_bwd HK.out).trans (by rw [if_neg N2.out]; rw [if_neg N1.out]; simp [hu, h2]))
            have hub : (d == 0) = true := by simpa using hu
            have h2b : (a == 2) = true := by simpa using h2
            clear hu h2
            go_wp2_with fail
            refine bodyPost_ret (v := sagaV o ⟨a, b, c, 1, e, f, x⟩) (by unfold sagaV; simp [results, Tryz.results133, go_sem, *]) rfl ⟨by rw [HQ.out], (by with_reducible (repeat (first | assumption | exact Below.refl _ _ | refine Below.drew ?_ | refine below_drewN ?_ _ | refine Below.alloc ?_ (by first | (simp; done) | omega | (simp; omega)) _ | refine Below.setCell ?_ (by first | (simp; done) | omega | (simp; omega)) _ | refine Below.trans ?_ (Below.mono (by assumption) (by first | (simp; done) | omega | (simp; omega))))))⟩
          · by_cases h4 : a = 4
            · have HQ := Lib.hid (show onOf ⟨a, b, c, d, e, f, x⟩ = ⟨a, b, c, 1, e, f, x⟩ from (onOf_bwd HK.out).trans (by rw [if_neg N2.out]; rw [if_neg N1.out]; simp [hu, h4]))
              have hub : (d == 0) = true := by simpa using hu
              have h2b : (a == 2) = false := by simpa using h2
              have h4b : (a == 4) = true := by simpa using h4
              clear hu h2 h4
              go_wp2_with fail
              refine bodyPost_ret (v := sagaV o ⟨a, b, c, 1, e, f, x⟩) (by unfold sagaV; simp [results, Tryz.results133, go_sem, *]) rfl ⟨by rw [HQ.out], (by with_reducible (repeat (first | assumption | exact Below.refl _ _ | refine Below.drew ?_ | refine below_drewN ?_ _ | refine Below.alloc ?_ (by first | (simp; done) | omega | (simp; omega)) _ | refine Below.setCell ?_ (by first | (simp; done) | omega | (simp; omega)) _ | refine Below.trans ?_ (Below.mono (by assumption) (by first | (simp; done) | omega | (simp; omega))))))⟩
            · have h2b : (a == 2) = false := by simpa using h2
              have h4b : (a == 4) = false := by simpa using h4
              have NN := Lib.hid (show ¬ ((a = 2 ∨ a = 4) ∧ d = 0) from fun h => h.1.elim h2 h4)
              clear hu h2 h4
              go_wp2_with fail
              go_round
              case rel => exact .inr (.inr (.inr ⟨rfl, N2.out, N1.out, NN.out⟩))
              case measure => simp [intOf] <;> omega
        · have NN := Lib.hid (show ¬ ((a = 2 ∨ a = 4) ∧ d = 0) from fun h => hu h.2)
          have hub : (d == 0) = false := by simpa using hu
          clear hu
          by_cases h2 : a = 2
          · have h2b : (a == 2) = true := by simpa using h2
            clear h2
            go_wp2_with fail
            go_round
            case rel => exact .inr (.inr (.inr ⟨rfl, N2.out, N1.out, NN.out⟩))
            case measure => simp [intOf] <;> omega
          · have h2b : (a == 2) = false := by simpa using h2
            clear h2
            by_cases h4 : a = 4
            · have h4b : (a == 4) = true := by simpa using h4
              clear h4
              go_wp2_with fail
              go_round
              case rel => exact .inr (.inr (.inr ⟨rfl, N2.out, N1.out, NN.out⟩))
              case measure => simp [intOf] <;> omega
            · have h4b : (a == 4) = false := by simpa using h4
              clear h4
              go_wp2_with fail
              go_round
              case rel => exact .inr (.inr (.inr ⟨rfl, N2.out, N1.out, NN.out⟩))
              case measure => simp [intOf] <;> omega
      · have HQ := Lib.hid (show onOf ⟨a, b, c, d, e, f, x⟩ = ⟨a, b, c, d, e, f, x⟩ from (onOf_bwd HK.out).trans (by rw [if_neg n2, if_neg n1, if_neg n0]))
        clear n2 n1 n0
        go_wp2_with fail
        refine bodyPost_ret (v := sagaV o ⟨a, b, c, d, e, f, x⟩) (by unfold sagaV; simp [results, Tryz.results133, go_sem, *]) rfl ⟨by rw [HQ.out], (by with_reducible (repeat (first | assumption | exact Below.refl _ _ | refine Below.drew ?_ | refine below_drewN ?_ _ | refine Below.alloc ?_ (by first | (simp; done) | omega | (simp; omega)) _ | refine Below.setCell ?_ (by first | (simp; done) | omega | (simp; omega)) _ | refine Below.trans ?_ (Below.mono (by assumption) (by first | (simp; done) | omega | (simp; omega))))))⟩
end Go.Proofs.YtibabfedpdoofaaGreatDoor
namespace Go.Proofs.YtibabfedpdoofaaGreatDoor
open Go.RowKit Go.Own

set_option maxHeartbeats 2000000 in
set_option maxRecDepth 100000 in
theorem refSagaNet_any (o : OrdS) (s : D6) (w : World) : Calls Tryz.prog 76 #[sagaV o s] w fun e w' => e = .returned (.int .i64 (netS o s)) ∧ Below w.heap.size w w' := by
  obtain ⟨a, b, c, d, e, f, x⟩ := s
  rw [(show sagaV o ⟨a, b, c, d, e, f, x⟩ = .agg #[.int .i64 o.id, .string ⟨o.ref.toArray⟩, .string ⟨o.sku.toArray⟩, .int .i64 o.qty, .int .i64 o.amt, .int .i64 a, .int .i64 b, .int .i64 c, .int .i64 d, .int .i64 e, .int .i64 f, .bool x] from rfl)]
  by_cases h1 : b = 2
  · by_cases h2 : e = 2
    · have HQ := Lib.hid (show netS o ⟨a, b, c, d, e, f, x⟩ = 0 by simp [netS, h2])
      have h1b : (b == 2) = true := by simpa using h1
      have h2b : (e != 2) = false := by simpa using h2
      clear h1 h2
      go_enter Tryz.func76, Tryz.ntmps76
      go_wp2_with fail
      go_ret
      exact ⟨by rw [HQ.out]; rfl, (by with_reducible (repeat (first | assumption | exact Below.refl _ _ | refine Below.drew ?_ | refine below_drewN ?_ _ | refine Below.alloc ?_ (by first | (simp; done) | omega | (simp; omega)) _ | refine Below.setCell ?_ (by first | (simp; done) | omega | (simp; omega)) _ | refine Below.trans ?_ (Below.mono (by assumption) (by first | (simp; done) | omega | (simp; omega))))))⟩
    · have HQ := Lib.hid (show netS o ⟨a, b, c, d, e, f, x⟩ = o.amt by simp [netS, h1, h2])
      have h1b : (b == 2) = true := by simpa using h1
      have h2b : (e != 2) = true := by simpa using h2
      clear h1 h2
      go_enter Tryz.func76, Tryz.ntmps76
      go_wp2_with fail
      go_ret
      exact ⟨by rw [HQ.out]; rfl, (by with_reducible (repeat (first | assumption | exact Below.refl _ _ | refine Below.drew ?_ | refine below_drewN ?_ _ | refine Below.alloc ?_ (by first | (simp; done) | omega | (simp; omega)) _ | refine Below.setCell ?_ (by first | (simp; done) | omega | (simp; omega)) _ | refine Below.trans ?_ (Below.mono (by assumption) (by first | (simp; done) | omega | (simp; omega))))))⟩
  · have HQ := Lib.hid (show netS o ⟨a, b, c, d, e, f, x⟩ = 0 by simp [netS, h1])
    have h1b : (b == 2) = false := by simpa using h1
    clear h1
    go_enter Tryz.func76, Tryz.ntmps76
    go_wp2_with fail
    go_ret
    exact ⟨by rw [HQ.out]; rfl, (by with_reducible (repeat (first | assumption | exact Below.refl _ _ | refine Below.drew ?_ | refine below_drewN ?_ _ | refine Below.alloc ?_ (by first | (simp; done) | omega | (simp; omega)) _ | refine Below.setCell ?_ (by first | (simp; done) | omega | (simp; omega)) _ | refine Below.trans ?_ (Below.mono (by assumption) (by first | (simp; done) | omega | (simp; omega))))))⟩

set_option maxHeartbeats 2000000 in
theorem refBegin_any (o : OrdS) (w : World) : Calls Tryz.prog 85 #[ordV o] w fun e w' => e = .returned (sagaV o beginD) ∧ Below w.heap.size w w' := by
  rw [show ordV o = .agg #[.int .i64 o.id, .string ⟨o.ref.toArray⟩, .string ⟨o.sku.toArray⟩, .int .i64 o.qty, .int .i64 o.amt] from rfl]
  go_enter Tryz.func85, Tryz.ntmps85
  go_wp2_with fail
  refine bodyPost_ret (v := sagaV o beginD) (by unfold sagaV; simp [results, Tryz.results85, go_sem, beginD]) rfl ⟨rfl, (by with_reducible (repeat (first | assumption | exact Below.refl _ _ | refine Below.drew ?_ | refine below_drewN ?_ _ | refine Below.alloc ?_ (by first | (simp; done) | omega | (simp; omega)) _ | refine Below.setCell ?_ (by first | (simp; done) | omega | (simp; omega)) _ | refine Below.trans ?_ (Below.mono (by assumption) (by first | (simp; done) | omega | (simp; omega))))))⟩
end Go.Proofs.YtibabfedpdoofaaGreatDoor
namespace Go.Proofs.YtibabfedpdoofaaGreatDoor
open Go.RowKit Go.Own

set_option maxHeartbeats 8000000 in
set_option maxRecDepth 100000 in
theorem refReply_any (o : OrdS) (s : D6) (deed code : Int) (w : World) : Calls Tryz.prog 134 #[sagaV o s, .int .i64 deed, .int .i64 code] w fun e w' => e = .returned (replyV o (replyOf s deed code)) ∧ Below w.heap.size w w' := by
  have W := fun w => refWaits_any o s w
  have hcs := waitsOf_cases s
  obtain ⟨a, b, c, d, e, f, x⟩ := s
  rw [(show sagaV o ⟨a, b, c, d, e, f, x⟩ = .agg #[.int .i64 o.id, .string ⟨o.ref.toArray⟩, .string ⟨o.sku.toArray⟩, .int .i64 o.qty, .int .i64 o.amt, .int .i64 a, .int .i64 b, .int .i64 c, .int .i64 d, .int .i64 e, .int .i64 f, .bool x] from rfl)] at W ⊢
  generalize hw : waitsOf ⟨a, b, c, d, e, f, x⟩ = p at *
  obtain ⟨n, v⟩ := p
  simp only at W hcs
  rcases hcs with ⟨rfl, rfl⟩ | ⟨rfl, hcs⟩
  · have HQ := Lib.hid (show replyOf ⟨a, b, c, d, e, f, x⟩ deed code = none by simp [replyOf, hw])
    clear hw
    go_enter Tryz.func134, Tryz.ntmps134
    go_wp2_with (go_at_call 118; go_must ((with_reducible refine (W _).mono ?_); rintro e w1 ⟨rfl, hb⟩; obtain ⟨hc, hf⟩ := bcell hb; have hz := hb.size; (try simp at hz); (try have hzT := Nat.lt_of_succ_le hz); have hzA : w.heap.size < w1.heap.size := (by omega); have hzB : w.heap.size + 1 < w1.heap.size := (by omega); have hzA2 := Nat.le_of_lt hzA; have hzB2 := Nat.le_of_lt hzB; have hT := Two.of hb; obtain ⟨k0, k1, k2, k3, k4, k5, k6, k7, k8, k9, k10, k11⟩ := (hT).cells1; have f1 := (hT).f1; obtain ⟨m0, m1, m2, m3, m4, m5, m6, m7, m8, m9, m10, m11⟩ := (hT).cells2; have f2 := (hT).f2; clear hc hf; have HT := Lib.hid hT; clear hT))
    refine bodyPost_ret (v := .tuple #[noneV, .bool false]) (by unfold noneV; simp [results, Tryz.results134, go_sem, *]) rfl ⟨by rw [HQ.out]; rfl, (by with_reducible (repeat (first | assumption | exact Below.refl _ _ | refine Below.drew ?_ | refine below_drewN ?_ _ | refine Below.alloc ?_ (by first | (simp; done) | omega | (simp; omega)) _ | refine Below.setCell ?_ (by first | (simp; done) | omega | (simp; omega)) _ | refine Below.trans ?_ (Below.mono (by assumption) (by first | (simp; done) | omega | (simp; omega))))))⟩
  by_cases hd : n = deed
  rotate_left
  · have HQ := Lib.hid (show replyOf ⟨a, b, c, d, e, f, x⟩ deed code = none by simp [replyOf, hw, hd])
    have hdn : (n != deed) = true := by simpa using hd
    clear hd hw hcs
    go_enter Tryz.func134, Tryz.ntmps134
    go_wp2_with (go_at_call 118; go_must ((with_reducible refine (W _).mono ?_); rintro e w1 ⟨rfl, hb⟩; obtain ⟨hc, hf⟩ := bcell hb; have hz := hb.size; (try simp at hz); (try have hzT := Nat.lt_of_succ_le hz); have hzA : w.heap.size < w1.heap.size := (by omega); have hzB : w.heap.size + 1 < w1.heap.size := (by omega); have hzA2 := Nat.le_of_lt hzA; have hzB2 := Nat.le_of_lt hzB; have hT := Two.of hb; obtain ⟨k0, k1, k2, k3, k4, k5, k6, k7, k8, k9, k10, k11⟩ := (hT).cells1; have f1 := (hT).f1; obtain ⟨m0, m1, m2, m3, m4, m5, m6, m7, m8, m9, m10, m11⟩ := (hT).cells2; have f2 := (hT).f2; clear hc hf; have HT := Lib.hid hT; clear hT))
    refine bodyPost_ret (v := .tuple #[noneV, .bool false]) (by unfold noneV; simp [results, Tryz.results134, go_sem, *]) rfl ⟨by rw [HQ.out]; rfl, (by with_reducible (repeat (first | assumption | exact Below.refl _ _ | refine Below.drew ?_ | refine below_drewN ?_ _ | refine Below.alloc ?_ (by first | (simp; done) | omega | (simp; omega)) _ | refine Below.setCell ?_ (by first | (simp; done) | omega | (simp; omega)) _ | refine Below.trans ?_ (Below.mono (by assumption) (by first | (simp; done) | omega | (simp; omega))))))⟩
  subst hd
  by_cases h1 : code = 1
  · subst h1
    rcases hcs with rfl | rfl | rfl | rfl | rfl | rfl
    · have HQ := Lib.hid (show replyOf ⟨a, b, c, d, e, f, x⟩ 0 1 = some (onOf ⟨2, b, c, d, e, f, x⟩) by simp [replyOf, hw, setD])
      have On := fun w => refOn_any o ⟨2, b, c, d, e, f, x⟩ w
      generalize onOf ⟨2, b, c, d, e, f, x⟩ = z at *
      simp only [sagaV] at On
      clear hw
      go_enter Tryz.func134, Tryz.ntmps134
      go_wp2_with (go_at_call 118; go_must ((with_reducible refine (W _).mono ?_); rintro e w1 ⟨rfl, hb⟩; obtain ⟨hc, hf⟩ := bcell hb; have hz := hb.size; (try simp at hz); (try have hzT := Nat.lt_of_succ_le hz); have hzA : w.heap.size < w1.heap.size := (by omega); have hzB : w.heap.size + 1 < w1.heap.size := (by omega); have hzA2 := Nat.le_of_lt hzA; have hzB2 := Nat.le_of_lt hzB; have hT := Two.of hb; obtain ⟨k0, k1, k2, k3, k4, k5, k6, k7, k8, k9, k10, k11⟩ := (hT).cells1; have f1 := (hT).f1; obtain ⟨m0, m1, m2, m3, m4, m5, m6, m7, m8, m9, m10, m11⟩ := (hT).cells2; have f2 := (hT).f2; clear hc hf; have HT := Lib.hid hT; clear hT))
      go_wp2_with (go_at_call 133; go_must ((with_reducible refine (On _).mono ?_); rintro e w2 ⟨rfl, hb2⟩; clear k0 k1 k2 k3 k4 k5 k6 k7 k8 k9 k10 k11 f1; clear m0 m1 m2 m3 m4 m5 m6 m7 m8 m9 m10 m11 f2; have hT2 := (HT.out.set (k := 5) (by simp) (.int .i64 2)).below hb2; obtain ⟨m0, m1, m2, m3, m4, m5, m6, m7, m8, m9, m10, m11⟩ := (hT2).cells2; have f2 := (hT2).f2; have hW2 := Lib.hid (show Below w.heap.size w w2 from (Below.setCell (Below.trans (((Below.refl _ _).alloc (Nat.le_refl _) _).alloc (by simp) _) (hb.mono (by simp; omega))) (Nat.le_refl _) _).trans (hb2.mono (by simp; omega))); clear hT2 hb2 hb))
      refine bodyPost_ret (v := .tuple #[sagaV o z, .bool true]) (by unfold sagaV; simp [results, Tryz.results134, go_sem, *]) rfl ⟨by rw [HQ.out]; rfl, ?_⟩
      have hW2 := hW2.out
      (with_reducible repeat (first | assumption | refine Below.setCell ?_ (by first | exact Nat.le_refl _ | omega | (simp; done) | (simp; omega)) _))
    · have HQ := Lib.hid (show replyOf ⟨a, b, c, d, e, f, x⟩ 1 1 = some (onOf ⟨a, 2, c, d, e, f, x⟩) by simp [replyOf, hw, setD])
      have On := fun w => refOn_any o ⟨a, 2, c, d, e, f, x⟩ w
      generalize onOf ⟨a, 2, c, d, e, f, x⟩ = z at *
      simp only [sagaV] at On
      clear hw
      go_enter Tryz.func134, Tryz.ntmps134
      go_wp2_with (go_at_call 118; go_must ((with_reducible refine (W _).mono ?_); rintro e w1 ⟨rfl, hb⟩; obtain ⟨hc, hf⟩ := bcell hb; have hz := hb.size; (try simp at hz); (try have hzT := Nat.lt_of_succ_le hz); have hzA : w.heap.size < w1.heap.size := (by omega); have hzB : w.heap.size + 1 < w1.heap.size := (by omega); have hzA2 := Nat.le_of_lt hzA; have hzB2 := Nat.le_of_lt hzB; have hT := Two.of hb; obtain ⟨k0, k1, k2, k3, k4, k5, k6, k7, k8, k9, k10, k11⟩ := (hT).cells1; have f1 := (hT).f1; obtain ⟨m0, m1, m2, m3, m4, m5, m6, m7, m8, m9, m10, m11⟩ := (hT).cells2; have f2 := (hT).f2; clear hc hf; have HT := Lib.hid hT; clear hT))
      go_wp2_with (go_at_call 133; go_must ((with_reducible refine (On _).mono ?_); rintro e w2 ⟨rfl, hb2⟩; clear k0 k1 k2 k3 k4 k5 k6 k7 k8 k9 k10 k11 f1; clear m0 m1 m2 m3 m4 m5 m6 m7 m8 m9 m10 m11 f2; have hT2 := (HT.out.set (k := 6) (by simp) (.int .i64 2)).below hb2; obtain ⟨m0, m1, m2, m3, m4, m5, m6, m7, m8, m9, m10, m11⟩ := (hT2).cells2; have f2 := (hT2).f2; have hW2 := Lib.hid (show Below w.heap.size w w2 from (Below.setCell (Below.trans (((Below.refl _ _).alloc (Nat.le_refl _) _).alloc (by simp) _) (hb.mono (by simp; omega))) (Nat.le_refl _) _).trans (hb2.mono (by simp; omega))); clear hT2 hb2 hb))
      refine bodyPost_ret (v := .tuple #[sagaV o z, .bool true]) (by unfold sagaV; simp [results, Tryz.results134, go_sem, *]) rfl ⟨by rw [HQ.out]; rfl, ?_⟩
      have hW2 := hW2.out
      (with_reducible repeat (first | assumption | refine Below.setCell ?_ (by first | exact Nat.le_refl _ | omega | (simp; done) | (simp; omega)) _))
    · have HQ := Lib.hid (show replyOf ⟨a, b, c, d, e, f, x⟩ 2 1 = some (onOf ⟨a, b, 2, d, e, f, x⟩) by simp [replyOf, hw, setD])
      have On := fun w => refOn_any o ⟨a, b, 2, d, e, f, x⟩ w
      generalize onOf ⟨a, b, 2, d, e, f, x⟩ = z at *
      simp only [sagaV] at On
      clear hw
      go_enter Tryz.func134, Tryz.ntmps134
      go_wp2_with (go_at_call 118; go_must ((with_reducible refine (W _).mono ?_); rintro e w1 ⟨rfl, hb⟩; obtain ⟨hc, hf⟩ := bcell hb; have hz := hb.size; (try simp at hz); (try have hzT := Nat.lt_of_succ_le hz); have hzA : w.heap.size < w1.heap.size := (by omega); have hzB : w.heap.size + 1 < w1.heap.size := (by omega); have hzA2 := Nat.le_of_lt hzA; have hzB2 := Nat.le_of_lt hzB; have hT := Two.of hb; obtain ⟨k0, k1, k2, k3, k4, k5, k6, k7, k8, k9, k10, k11⟩ := (hT).cells1; have f1 := (hT).f1; obtain ⟨m0, m1, m2, m3, m4, m5, m6, m7, m8, m9, m10, m11⟩ := (hT).cells2; have f2 := (hT).f2; clear hc hf; have HT := Lib.hid hT; clear hT))
      go_wp2_with (go_at_call 133; go_must ((with_reducible refine (On _).mono ?_); rintro e w2 ⟨rfl, hb2⟩; clear k0 k1 k2 k3 k4 k5 k6 k7 k8 k9 k10 k11 f1; clear m0 m1 m2 m3 m4 m5 m6 m7 m8 m9 m10 m11 f2; have hT2 := (HT.out.set (k := 7) (by simp) (.int .i64 2)).below hb2; obtain ⟨m0, m1, m2, m3, m4, m5, m6, m7, m8, m9, m10, m11⟩ := (hT2).cells2; have f2 := (hT2).f2; have hW2 := Lib.hid (show Below w.heap.size w w2 from (Below.setCell (Below.trans (((Below.refl _ _).alloc (Nat.le_refl _) _).alloc (by simp) _) (hb.mono (by simp; omega))) (Nat.le_refl _) _).trans (hb2.mono (by simp; omega))); clear hT2 hb2 hb))
      refine bodyPost_ret (v := .tuple #[sagaV o z, .bool true]) (by unfold sagaV; simp [results, Tryz.results134, go_sem, *]) rfl ⟨by rw [HQ.out]; rfl, ?_⟩
      have hW2 := hW2.out
      (with_reducible repeat (first | assumption | refine Below.setCell ?_ (by first | exact Nat.le_refl _ | omega | (simp; done) | (simp; omega)) _))
    · have HQ := Lib.hid (show replyOf ⟨a, b, c, d, e, f, x⟩ 3 1 = some (onOf ⟨a, b, c, 2, e, f, x⟩) by simp [replyOf, hw, setD])
      have On := fun w => refOn_any o ⟨a, b, c, 2, e, f, x⟩ w
      generalize onOf ⟨a, b, c, 2, e, f, x⟩ = z at *
      simp only [sagaV] at On
      clear hw
      go_enter Tryz.func134, Tryz.ntmps134
      go_wp2_with (go_at_call 118; go_must ((with_reducible refine (W _).mono ?_); rintro e w1 ⟨rfl, hb⟩; obtain ⟨hc, hf⟩ := bcell hb; have hz := hb.size; (try simp at hz); (try have hzT := Nat.lt_of_succ_le hz); have hzA : w.heap.size < w1.heap.size := (by omega); have hzB : w.heap.size + 1 < w1.heap.size := (by omega); have hzA2 := Nat.le_of_lt hzA; have hzB2 := Nat.le_of_lt hzB; have hT := Two.of hb; obtain ⟨k0, k1, k2, k3, k4, k5, k6, k7, k8, k9, k10, k11⟩ := (hT).cells1; have f1 := (hT).f1; obtain ⟨m0, m1, m2, m3, m4, m5, m6, m7, m8, m9, m10, m11⟩ := (hT).cells2; have f2 := (hT).f2; clear hc hf; have HT := Lib.hid hT; clear hT))
      go_wp2_with (go_at_call 133; go_must ((with_reducible refine (On _).mono ?_); rintro e w2 ⟨rfl, hb2⟩; clear k0 k1 k2 k3 k4 k5 k6 k7 k8 k9 k10 k11 f1; clear m0 m1 m2 m3 m4 m5 m6 m7 m8 m9 m10 m11 f2; have hT2 := (HT.out.set (k := 8) (by simp) (.int .i64 2)).below hb2; obtain ⟨m0, m1, m2, m3, m4, m5, m6, m7, m8, m9, m10, m11⟩ := (hT2).cells2; have f2 := (hT2).f2; have hW2 := Lib.hid (show Below w.heap.size w w2 from (Below.setCell (Below.trans (((Below.refl _ _).alloc (Nat.le_refl _) _).alloc (by simp) _) (hb.mono (by simp; omega))) (Nat.le_refl _) _).trans (hb2.mono (by simp; omega))); clear hT2 hb2 hb))
      refine bodyPost_ret (v := .tuple #[sagaV o z, .bool true]) (by unfold sagaV; simp [results, Tryz.results134, go_sem, *]) rfl ⟨by rw [HQ.out]; rfl, ?_⟩
      have hW2 := hW2.out
      (with_reducible repeat (first | assumption | refine Below.setCell ?_ (by first | exact Nat.le_refl _ | omega | (simp; done) | (simp; omega)) _))
    · have HQ := Lib.hid (show replyOf ⟨a, b, c, d, e, f, x⟩ 4 1 = some (onOf ⟨a, b, c, d, 2, f, x⟩) by simp [replyOf, hw, setD])
      have On := fun w => refOn_any o ⟨a, b, c, d, 2, f, x⟩ w
      generalize onOf ⟨a, b, c, d, 2, f, x⟩ = z at *
      simp only [sagaV] at On
      clear hw
      go_enter Tryz.func134, Tryz.ntmps134
      go_wp2_with (go_at_call 118; go_must ((with_reducible refine (W _).mono ?_); rintro e w1 ⟨rfl, hb⟩; obtain ⟨hc, hf⟩ := bcell hb; have hz := hb.size; (try simp at hz); (try have hzT := Nat.lt_of_succ_le hz); have hzA : w.heap.size < w1.heap.size := (by omega); have hzB : w.heap.size + 1 < w1.heap.size := (by omega); have hzA2 := Nat.le_of_lt hzA; have hzB2 := Nat.le_of_lt hzB; have hT := Two.of hb; obtain ⟨k0, k1, k2, k3, k4, k5, k6, k7, k8, k9, k10, k11⟩ := (hT).cells1; have f1 := (hT).f1; obtain ⟨m0, m1, m2, m3, m4, m5, m6, m7, m8, m9, m10, m11⟩ := (hT).cells2; have f2 := (hT).f2; clear hc hf; have HT := Lib.hid hT; clear hT))
      go_wp2_with (go_at_call 133; go_must ((with_reducible refine (On _).mono ?_); rintro e w2 ⟨rfl, hb2⟩; clear k0 k1 k2 k3 k4 k5 k6 k7 k8 k9 k10 k11 f1; clear m0 m1 m2 m3 m4 m5 m6 m7 m8 m9 m10 m11 f2; have hT2 := (HT.out.set (k := 9) (by simp) (.int .i64 2)).below hb2; obtain ⟨m0, m1, m2, m3, m4, m5, m6, m7, m8, m9, m10, m11⟩ := (hT2).cells2; have f2 := (hT2).f2; have hW2 := Lib.hid (show Below w.heap.size w w2 from (Below.setCell (Below.trans (((Below.refl _ _).alloc (Nat.le_refl _) _).alloc (by simp) _) (hb.mono (by simp; omega))) (Nat.le_refl _) _).trans (hb2.mono (by simp; omega))); clear hT2 hb2 hb))
      refine bodyPost_ret (v := .tuple #[sagaV o z, .bool true]) (by unfold sagaV; simp [results, Tryz.results134, go_sem, *]) rfl ⟨by rw [HQ.out]; rfl, ?_⟩
      have hW2 := hW2.out
      (with_reducible repeat (first | assumption | refine Below.setCell ?_ (by first | exact Nat.le_refl _ | omega | (simp; done) | (simp; omega)) _))
    · have HQ := Lib.hid (show replyOf ⟨a, b, c, d, e, f, x⟩ 5 1 = some (onOf ⟨a, b, c, d, e, 2, x⟩) by simp [replyOf, hw, setD])
      have On := fun w => refOn_any o ⟨a, b, c, d, e, 2, x⟩ w
      generalize onOf ⟨a, b, c, d, e, 2, x⟩ = z at *
      simp only [sagaV] at On
      clear hw
      go_enter Tryz.func134, Tryz.ntmps134
      go_wp2_with (go_at_call 118; go_must ((with_reducible refine (W _).mono ?_); rintro e w1 ⟨rfl, hb⟩; obtain ⟨hc, hf⟩ := bcell hb; have hz := hb.size; (try simp at hz); (try have hzT := Nat.lt_of_succ_le hz); have hzA : w.heap.size < w1.heap.size := (by omega); have hzB : w.heap.size + 1 < w1.heap.size := (by omega); have hzA2 := Nat.le_of_lt hzA; have hzB2 := Nat.le_of_lt hzB; have hT := Two.of hb; obtain ⟨k0, k1, k2, k3, k4, k5, k6, k7, k8, k9, k10, k11⟩ := (hT).cells1; have f1 := (hT).f1; obtain ⟨m0, m1, m2, m3, m4, m5, m6, m7, m8, m9, m10, m11⟩ := (hT).cells2; have f2 := (hT).f2; clear hc hf; have HT := Lib.hid hT; clear hT))
      go_wp2_with (go_at_call 133; go_must ((with_reducible refine (On _).mono ?_); rintro e w2 ⟨rfl, hb2⟩; clear k0 k1 k2 k3 k4 k5 k6 k7 k8 k9 k10 k11 f1; clear m0 m1 m2 m3 m4 m5 m6 m7 m8 m9 m10 m11 f2; have hT2 := (HT.out.set (k := 10) (by simp) (.int .i64 2)).below hb2; obtain ⟨m0, m1, m2, m3, m4, m5, m6, m7, m8, m9, m10, m11⟩ := (hT2).cells2; have f2 := (hT2).f2; have hW2 := Lib.hid (show Below w.heap.size w w2 from (Below.setCell (Below.trans (((Below.refl _ _).alloc (Nat.le_refl _) _).alloc (by simp) _) (hb.mono (by simp; omega))) (Nat.le_refl _) _).trans (hb2.mono (by simp; omega))); clear hT2 hb2 hb))
      refine bodyPost_ret (v := .tuple #[sagaV o z, .bool true]) (by unfold sagaV; simp [results, Tryz.results134, go_sem, *]) rfl ⟨by rw [HQ.out]; rfl, ?_⟩
      have hW2 := hW2.out
      (with_reducible repeat (first | assumption | refine Below.setCell ?_ (by first | exact Nat.le_refl _ | omega | (simp; done) | (simp; omega)) _))
  by_cases h2 : code = 2
  rotate_left
  · have HQ := Lib.hid (show replyOf ⟨a, b, c, d, e, f, x⟩ n code = none by simp [replyOf, hw, h1, h2])
    have h1n : (code != 1) = true := by simpa using h1
    have h2n : (code != 2) = true := by simpa using h2
    have h1e : (code == 1) = false := by simpa using h1
    have h2e : (code == 2) = false := by simpa using h2
    clear h1 h2 hw hcs
    go_enter Tryz.func134, Tryz.ntmps134
    go_wp2_with (go_at_call 118; go_must ((with_reducible refine (W _).mono ?_); rintro e w1 ⟨rfl, hb⟩; obtain ⟨hc, hf⟩ := bcell hb; have hz := hb.size; (try simp at hz); (try have hzT := Nat.lt_of_succ_le hz); have hzA : w.heap.size < w1.heap.size := (by omega); have hzB : w.heap.size + 1 < w1.heap.size := (by omega); have hzA2 := Nat.le_of_lt hzA; have hzB2 := Nat.le_of_lt hzB; have hT := Two.of hb; obtain ⟨k0, k1, k2, k3, k4, k5, k6, k7, k8, k9, k10, k11⟩ := (hT).cells1; have f1 := (hT).f1; obtain ⟨m0, m1, m2, m3, m4, m5, m6, m7, m8, m9, m10, m11⟩ := (hT).cells2; have f2 := (hT).f2; clear hc hf; have HT := Lib.hid hT; clear hT))
    refine bodyPost_ret (v := .tuple #[noneV, .bool false]) (by unfold noneV; simp [results, Tryz.results134, go_sem, *]) rfl ⟨by rw [HQ.out]; rfl, (by with_reducible (repeat (first | assumption | exact Below.refl _ _ | refine Below.drew ?_ | refine below_drewN ?_ _ | refine Below.alloc ?_ (by first | (simp; done) | omega | (simp; omega)) _ | refine Below.setCell ?_ (by first | (simp; done) | omega | (simp; omega)) _ | refine Below.trans ?_ (Below.mono (by assumption) (by first | (simp; done) | omega | (simp; omega))))))⟩
  subst h2
  by_cases h3 : n ≤ 2
  rotate_left
  · have HQ := Lib.hid (show replyOf ⟨a, b, c, d, e, f, x⟩ n 2 = none by simp [replyOf, hw, h3])
    have h3n : 2 < n := by omega
    clear h3 hw hcs h1
    go_enter Tryz.func134, Tryz.ntmps134
    go_wp2_with (go_at_call 118; go_must ((with_reducible refine (W _).mono ?_); rintro e w1 ⟨rfl, hb⟩; obtain ⟨hc, hf⟩ := bcell hb; have hz := hb.size; (try simp at hz); (try have hzT := Nat.lt_of_succ_le hz); have hzA : w.heap.size < w1.heap.size := (by omega); have hzB : w.heap.size + 1 < w1.heap.size := (by omega); have hzA2 := Nat.le_of_lt hzA; have hzB2 := Nat.le_of_lt hzB; have hT := Two.of hb; obtain ⟨k0, k1, k2, k3, k4, k5, k6, k7, k8, k9, k10, k11⟩ := (hT).cells1; have f1 := (hT).f1; obtain ⟨m0, m1, m2, m3, m4, m5, m6, m7, m8, m9, m10, m11⟩ := (hT).cells2; have f2 := (hT).f2; clear hc hf; have HT := Lib.hid hT; clear hT))
    refine bodyPost_ret (v := .tuple #[noneV, .bool false]) (by unfold noneV; simp [results, Tryz.results134, go_sem, *]) rfl ⟨by rw [HQ.out]; rfl, (by with_reducible (repeat (first | assumption | exact Below.refl _ _ | refine Below.drew ?_ | refine below_drewN ?_ _ | refine Below.alloc ?_ (by first | (simp; done) | omega | (simp; omega)) _ | refine Below.setCell ?_ (by first | (simp; done) | omega | (simp; omega)) _ | refine Below.trans ?_ (Below.mono (by assumption) (by first | (simp; done) | omega | (simp; omega))))))⟩
  clear h1
  rcases hcs with rfl | rfl | rfl | rfl | rfl | rfl
  · have HQ := Lib.hid (show replyOf ⟨a, b, c, d, e, f, x⟩ 0 2 = some (onOf ⟨3, b, c, d, e, f, x⟩) by simp [replyOf, hw, setD])
    have On := fun w => refOn_any o ⟨3, b, c, d, e, f, x⟩ w
    generalize onOf ⟨3, b, c, d, e, f, x⟩ = z at *
    simp only [sagaV] at On
    clear hw
    go_enter Tryz.func134, Tryz.ntmps134
    go_wp2_with (go_at_call 118; go_must ((with_reducible refine (W _).mono ?_); rintro e w1 ⟨rfl, hb⟩; obtain ⟨hc, hf⟩ := bcell hb; have hz := hb.size; (try simp at hz); (try have hzT := Nat.lt_of_succ_le hz); have hzA : w.heap.size < w1.heap.size := (by omega); have hzB : w.heap.size + 1 < w1.heap.size := (by omega); have hzA2 := Nat.le_of_lt hzA; have hzB2 := Nat.le_of_lt hzB; have hT := Two.of hb; obtain ⟨k0, k1, k2, k3, k4, k5, k6, k7, k8, k9, k10, k11⟩ := (hT).cells1; have f1 := (hT).f1; obtain ⟨m0, m1, m2, m3, m4, m5, m6, m7, m8, m9, m10, m11⟩ := (hT).cells2; have f2 := (hT).f2; clear hc hf; have HT := Lib.hid hT; clear hT))
    go_wp2_with (go_at_call 133; go_must ((with_reducible refine (On _).mono ?_); rintro e w2 ⟨rfl, hb2⟩; clear k0 k1 k2 k3 k4 k5 k6 k7 k8 k9 k10 k11 f1; clear m0 m1 m2 m3 m4 m5 m6 m7 m8 m9 m10 m11 f2; have hT2 := (HT.out.set (k := 5) (by simp) (.int .i64 3)).below hb2; obtain ⟨m0, m1, m2, m3, m4, m5, m6, m7, m8, m9, m10, m11⟩ := (hT2).cells2; have f2 := (hT2).f2; have hW2 := Lib.hid (show Below w.heap.size w w2 from (Below.setCell (Below.trans (((Below.refl _ _).alloc (Nat.le_refl _) _).alloc (by simp) _) (hb.mono (by simp; omega))) (Nat.le_refl _) _).trans (hb2.mono (by simp; omega))); clear hT2 hb2 hb))
    refine bodyPost_ret (v := .tuple #[sagaV o z, .bool true]) (by unfold sagaV; simp [results, Tryz.results134, go_sem, *]) rfl ⟨by rw [HQ.out]; rfl, ?_⟩
    have hW2 := hW2.out
    (with_reducible repeat (first | assumption | refine Below.setCell ?_ (by first | exact Nat.le_refl _ | omega | (simp; done) | (simp; omega)) _))
  · have HQ := Lib.hid (show replyOf ⟨a, b, c, d, e, f, x⟩ 1 2 = some (onOf ⟨a, 3, c, d, e, f, x⟩) by simp [replyOf, hw, setD])
    have On := fun w => refOn_any o ⟨a, 3, c, d, e, f, x⟩ w
    generalize onOf ⟨a, 3, c, d, e, f, x⟩ = z at *
    simp only [sagaV] at On
    clear hw
    go_enter Tryz.func134, Tryz.ntmps134
    go_wp2_with (go_at_call 118; go_must ((with_reducible refine (W _).mono ?_); rintro e w1 ⟨rfl, hb⟩; obtain ⟨hc, hf⟩ := bcell hb; have hz := hb.size; (try simp at hz); (try have hzT := Nat.lt_of_succ_le hz); have hzA : w.heap.size < w1.heap.size := (by omega); have hzB : w.heap.size + 1 < w1.heap.size := (by omega); have hzA2 := Nat.le_of_lt hzA; have hzB2 := Nat.le_of_lt hzB; have hT := Two.of hb; obtain ⟨k0, k1, k2, k3, k4, k5, k6, k7, k8, k9, k10, k11⟩ := (hT).cells1; have f1 := (hT).f1; obtain ⟨m0, m1, m2, m3, m4, m5, m6, m7, m8, m9, m10, m11⟩ := (hT).cells2; have f2 := (hT).f2; clear hc hf; have HT := Lib.hid hT; clear hT))
    go_wp2_with (go_at_call 133; go_must ((with_reducible refine (On _).mono ?_); rintro e w2 ⟨rfl, hb2⟩; clear k0 k1 k2 k3 k4 k5 k6 k7 k8 k9 k10 k11 f1; clear m0 m1 m2 m3 m4 m5 m6 m7 m8 m9 m10 m11 f2; have hT2 := (HT.out.set (k := 6) (by simp) (.int .i64 3)).below hb2; obtain ⟨m0, m1, m2, m3, m4, m5, m6, m7, m8, m9, m10, m11⟩ := (hT2).cells2; have f2 := (hT2).f2; have hW2 := Lib.hid (show Below w.heap.size w w2 from (Below.setCell (Below.trans (((Below.refl _ _).alloc (Nat.le_refl _) _).alloc (by simp) _) (hb.mono (by simp; omega))) (Nat.le_refl _) _).trans (hb2.mono (by simp; omega))); clear hT2 hb2 hb))
    refine bodyPost_ret (v := .tuple #[sagaV o z, .bool true]) (by unfold sagaV; simp [results, Tryz.results134, go_sem, *]) rfl ⟨by rw [HQ.out]; rfl, ?_⟩
    have hW2 := hW2.out
    (with_reducible repeat (first | assumption | refine Below.setCell ?_ (by first | exact Nat.le_refl _ | omega | (simp; done) | (simp; omega)) _))
  · have HQ := Lib.hid (show replyOf ⟨a, b, c, d, e, f, x⟩ 2 2 = some (onOf ⟨a, b, 3, d, e, f, x⟩) by simp [replyOf, hw, setD])
    have On := fun w => refOn_any o ⟨a, b, 3, d, e, f, x⟩ w
    generalize onOf ⟨a, b, 3, d, e, f, x⟩ = z at *
    simp only [sagaV] at On
    clear hw
    go_enter Tryz.func134, Tryz.ntmps134
    go_wp2_with (go_at_call 118; go_must ((with_reducible refine (W _).mono ?_); rintro e w1 ⟨rfl, hb⟩; obtain ⟨hc, hf⟩ := bcell hb; have hz := hb.size; (try simp at hz); (try have hzT := Nat.lt_of_succ_le hz); have hzA : w.heap.size < w1.heap.size := (by omega); have hzB : w.heap.size + 1 < w1.heap.size := (by omega); have hzA2 := Nat.le_of_lt hzA; have hzB2 := Nat.le_of_lt hzB; have hT := Two.of hb; obtain ⟨k0, k1, k2, k3, k4, k5, k6, k7, k8, k9, k10, k11⟩ := (hT).cells1; have f1 := (hT).f1; obtain ⟨m0, m1, m2, m3, m4, m5, m6, m7, m8, m9, m10, m11⟩ := (hT).cells2; have f2 := (hT).f2; clear hc hf; have HT := Lib.hid hT; clear hT))
    go_wp2_with (go_at_call 133; go_must ((with_reducible refine (On _).mono ?_); rintro e w2 ⟨rfl, hb2⟩; clear k0 k1 k2 k3 k4 k5 k6 k7 k8 k9 k10 k11 f1; clear m0 m1 m2 m3 m4 m5 m6 m7 m8 m9 m10 m11 f2; have hT2 := (HT.out.set (k := 7) (by simp) (.int .i64 3)).below hb2; obtain ⟨m0, m1, m2, m3, m4, m5, m6, m7, m8, m9, m10, m11⟩ := (hT2).cells2; have f2 := (hT2).f2; have hW2 := Lib.hid (show Below w.heap.size w w2 from (Below.setCell (Below.trans (((Below.refl _ _).alloc (Nat.le_refl _) _).alloc (by simp) _) (hb.mono (by simp; omega))) (Nat.le_refl _) _).trans (hb2.mono (by simp; omega))); clear hT2 hb2 hb))
    refine bodyPost_ret (v := .tuple #[sagaV o z, .bool true]) (by unfold sagaV; simp [results, Tryz.results134, go_sem, *]) rfl ⟨by rw [HQ.out]; rfl, ?_⟩
    have hW2 := hW2.out
    (with_reducible repeat (first | assumption | refine Below.setCell ?_ (by first | exact Nat.le_refl _ | omega | (simp; done) | (simp; omega)) _))
  · omega
  · omega
  · omega
end Go.Proofs.YtibabfedpdoofaaGreatDoor

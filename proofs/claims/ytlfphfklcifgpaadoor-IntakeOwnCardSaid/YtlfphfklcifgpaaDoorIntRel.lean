/-
  The pieces of memory of an intake that is led through statements; conditions: none.
-/
import Derived.Test.YtlfphfklcifgpaaDoorIntTaken
namespace Go.Proofs.YtlfphfklcifgpaaDoor
open Go.RowKit Go.Own Go.Maps

/-- An intake's map, as a piece of memory. -/
def mapM (m : Value) (g : Lit → Option Value) : Ent := ⟨match m with
  | .map (some b) => [b]
  | _ => [], fun w => MapIs m g w⟩
theorem mapM_ok (m : Value) (g : Lit → Option Value) : (mapM m g).Ok := fun w w' h hF => by
  rcases hF with hF | ⟨b, n, rfl, hF⟩
  · exact .inl hF
  · exact .inr ⟨b, n, rfl, mapE_ok _ _ _ _ _ w w' h hF⟩
theorem isl_ok' (k : Nat) (v : Value) (A : List (List Value)) {W w : World} {L : List Ent} (h : Own W w L) (hm : isl k v A ∈ L) : (isl k v A).Ok := h.ok _ hm
theorem ownIsl {W w : World} {L L' : List Ent} {v : Value} {rs : List RowS} (h : Own W w L) (hat : At (isl 5 v (rs.map rowC)) (isl 5 v (rs.map rowC)) L L') : IsRows w v rs := isRows_of_isL (h.has _ hat.mem)
theorem Own.nilIsl {W w : World} {L : List Ent} (h : Own W w L) : Own W w (isl 5 (.slice none 0 0) (([] : List RowS).map rowC) :: L) := by
  refine h.more (Below.refl _ _) (fun w w' _ _ => .none _ _ (fun _ => rfl)) (.none _ _ (fun _ => rfl)) (fun b hb => ?_) (fun b hb => ?_) <;> cases hb
theorem Own.nilMap {W w : World} {L : List Ent} (h : Own W w L) : Own W w (mapM (.map none) (allF zeroI) :: L) := by
  refine h.more (Below.refl _ _) (mapM_ok _ _) (.inl ⟨rfl, fun l => rfl⟩) (fun b hb => ?_) (fun b hb => ?_) <;> cases hb
theorem Own.rowIsl {W w : World} {L L' : List Ent} {t : Nat} {v : Value} {rs : List RowS} (h : Own W w L) (hat : At (row t 5 v (rs.map rowC)) (isl 5 v (rs.map rowC)) L L') : Own W w L' := h.read hat (rowC_len rs)
theorem Own.mapIsM {W w : World} {L L' : List Ent} {b n : Nat} {g : Lit → Option Value} (h : Own W w L) (hat : At (mapE Tryd.prog 43 b n g) (mapM (.map (some b)) g) L L') : Own W w L' :=
  h.as hat (mapM_ok _ _) (fun hF => .inr ⟨b, n, rfl, hF⟩) (fun _ hb => hb)
theorem rowT_form (x : Option RowS) : ∃ a b c d e, rowT x = .agg #[.int .i64 a, .int .i64 b, .int .i64 c, .int .i64 d, .int .i64 e] := by
  cases x with
  | none => exact ⟨0, 0, 0, 0, 0, rfl⟩
  | some r => exact ⟨_, _, _, _, _, rfl⟩
theorem row_ne_self (a b c d e : Int) (w : World) : (binOp .neq 45 (.agg #[.int .i64 a, .int .i64 b, .int .i64 c, .int .i64 d, .int .i64 e]) (.agg #[.int .i64 a, .int .i64 b, .int .i64 c, .int .i64 d, .int .i64 e])).run Tryd.prog w = .ok (.bool false) w := by
  have := run_row_neq ⟨a, b, c, d, e⟩ ⟨a, b, c, d, e⟩ w
  rwa [rowNe_self] at this
theorem sameI_self (A : InS) : sameI A A = true := by simp [sameI, sameStmt_iff.2 ⟨rfl, rfl, rfl⟩]
def PlayRel (W : World) (b3 b5 b6 : Nat) (o d : Int) (w : World) : Prop := ∃ (A : InS) (s0 s1 s2 t0 t1 t2 : Option Addr) (c0 c1 c2 d0 d1 d2 : Nat) (m : Option Nat), InOk A ∧ IsRows W (.slice t0 A.r0.length d0) A.r0 ∧ IsRows W (.slice t1 A.r1.length d1) A.r1 ∧ IsRows W (.slice t2 A.r2.length d2) A.r2 ∧ Own W w [box b5 (.cells #[.int .i64 A.p0, .int .i64 A.q0, .slice s0 A.r0.length c0, .int .i64 A.p1, .int .i64 A.q1, .slice s1 A.r1.length c1, .int .i64 A.p2, .int .i64 A.q2, .slice s2 A.r2.length c2, .map m] 32), box b6 (.cells #[.int .i64 A.p0, .int .i64 A.q0, .slice t0 A.r0.length d0, .int .i64 A.p1, .int .i64 A.q1, .slice t1 A.r1.length d1, .int .i64 A.p2, .int .i64 A.q2, .slice t2 A.r2.length d2] 34), box b3 (.cells #[.int .i64 o, .int .i64 d] 43), isl 5 (.slice s0 A.r0.length c0) (A.r0.map rowC), isl 5 (.slice s1 A.r1.length c1) (A.r1.map rowC), isl 5 (.slice s2 A.r2.length c2) (A.r2.map rowC), mapM (.map m) (allF A)]
/-- A statement, from whatever world it is read. -/
theorem oldSt {W : World} {v : Value} {ss : List StI} {p : Option Addr} {n c : Nat} (h : IsSts W v ss) (e : v = .slice p n c) {j : Nat} (hj : j < ss.length) : ∃ a, p = some a ∧ ∀ w', Below W.heap.size W w' → ∀ i u, (stC ss[j])[i]? = some u → w'.cell? ((a.add (j * 3)).add i) = some u := by
  obtain ⟨a, cap, h1, _, _, hR⟩ := h.l.at (by rw [List.length_map]; omega)
  rw [e] at h1
  cases h1
  refine ⟨a, rfl, fun w' hb i u hu => ?_⟩
  have := hR.c j (by simpa using hj) i u (by simpa using hu)
  rw [← this]
  exact hb.cell (by rw [lBlock, lBlock]; exact hR.lt)
theorem IsSts.below {W w : World} {v : Value} {ss : List StI} (h : IsSts W v ss) (hb : Below W.heap.size W w) : IsSts w v ss := ⟨h.l.below hb h.l.lt, fun s hs => (h.r s hs).below hb (h.r s hs).lt⟩
theorem mapForm (m : Option Nat) : (Value.map m = .map none) ∨ ∃ b, Value.map m = .map (some b) := by
  cases m with
  | none => exact .inl rfl
  | some b => exact .inr ⟨b, rfl⟩
theorem ofStart {W w : World} {x2 x3 x4 x5 : Ent} (h : Own W w [x5, x4, x3, x2]) : Own W w [x4, x5, isl 5 (.slice none 0 0) (([] : List RowS).map rowC), isl 5 (.slice none 0 0) (([] : List RowS).map rowC), isl 5 (.slice none 0 0) (([] : List RowS).map rowC), mapM (.map none) (allF zeroI), x2, x3] := by
  have h1 := Own.nilIsl (Own.nilIsl (Own.nilIsl (Own.nilMap (h.perm ((List.Perm.swap x4 x5 _).trans ((List.Perm.swap x2 x3 []).cons x5 |>.cons x4))))))
  exact h1.perm (List.perm_append_comm_assoc (_ :: _ :: _ :: [_]) [x4, x5] [x2, x3])
end Go.Proofs.YtlfphfklcifgpaaDoor

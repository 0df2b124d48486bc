/-
  A journal gone through to where a line fits, by walking the program's text; conditions: the entries lie in memory, the laid tables.
  Lines held against the entries of a journal, by walking the program's text; conditions: lines and entries lie in memory, the laid tables.
  A slice literal of several structs; over any program; conditions: none.
  The chapter's journal, by walking the law's text; conditions: the laid tables.
  Since when orders have suspense, by walking the program's text; conditions: int64 numbers.
  How much is old, by walking the program's text; conditions: int64 numbers.
  The document's aging, and its core's balances, by walking its text; conditions: the core is one that entries come to, int64 numbers.
  What the document's core asks for, by walking its text; conditions: the core is one that entries come to.
  Whether two lists of keys are the same, by walking the law's text; conditions: they lie in memory.
-/
import Derived.Deep.LoopGhost
import Derived.Lib.SliceRun
import Derived.BigGuardPart
import Derived.OwnWalk
import Derived.Test.YtibabfedpdoofaaGreatDoorPa1
import Derived.Test.YtibabfedpdoofaaGreatDoorPa2
import Derived.Test.YtibabfedpdoofaaGreatDoorPa4
import Derived.Test.YtibabfedpdoofaaGreatDoorPa8
import Derived.Test.YtibabfedpdoofaaGreatDoorPa10
import Derived.Test.YtibabfedpdoofaaGreatDoorPa11
namespace Go.Proofs.YtibabfedpdoofaaGreatDoor
open Go.RowKit Go.Own Go.Maps

theorem inFormH {W w : World} {L : List Ent} {i : InA} {A : InS} (h : Own W w L) (hm : ∀ e ∈ inPs i A, e ∈ L) : (∃ p n c, i.v0 = .slice p n c) ∧ (∃ p n c, i.v1 = .slice p n c) ∧ (∃ p n c, i.v2 = .slice p n c) ∧ ∃ x, i.m = .map x := by
  have f : ∀ {v : Value} {B : List (List Value)}, IsL w 5 v B → ∃ p n c, v = .slice p n c := fun hI => by
    obtain ⟨p, c, hv, -⟩ := hI.slice
    exact ⟨_, _, _, hv⟩
  refine ⟨f (h.has _ (hm _ (.head _))), f (h.has _ (hm _ (.tail _ (.head _)))), f (h.has _ (hm _ (.tail _ (.tail _ (.head _))))), ?_⟩
  have h4 : MapIs i.m (allF A) w := h.has _ (hm _ (.tail _ (.tail _ (.tail _ (.head _)))))
  rcases h4 with h4 | ⟨b, n, h4, _⟩
  · exact ⟨none, h4.1⟩
  · exact ⟨some b, h4⟩
theorem idsIn {L : List (OrdS × D6)} (h : idsOk L) (hl : L.length ≤ 60) : ∀ x ∈ L, inI x.1.id = true := fun x hx => by
  obtain ⟨j, hj, rfl⟩ := List.mem_iff_getElem.1 hx
  rw [h j _ (List.getElem?_eq_getElem hj)]
  exact inI_iff.2 (by omega)
/-- What stands behind the first j entries. -/
noncomputable def rpL (r : Nat) (u : Option Addr) (n c : Nat) (X : List EntS) (j : Nat) (a : CoA) (i : InA) (M : List Ent) : List Ent := rpB r u n c j a.c :: (coPs a (stAt X j).1 i (stAt X j).2 ++ (inPs i (stAt X j).2 ++ M))
theorem stAt_ok (X : List EntS) {j : Nat} (hj : j ≤ X.length) (hl : X.length ≤ 1000) : CoInv (stAt X j).1 (stAt X j).2 ∧ idsOk (stAt X j).1.L ∧ (stAt X j).1.P.length ≤ 60000 := by
  have h1 := (coreOf_ok X j hj).2.1
  exact ⟨coreOf_inv X hl j hj, coreOf_ids X j hj, by unfold stAt; omega⟩
theorem stAt_snoc (X : List EntS) {j : Nat} (hj : j < X.length) : (stAt X (j + 1)).1 = applyS (stAt X j).1 (stAt X j).2 X[j] ∧ (stAt X (j + 1)).2 = applyI (stAt X j).2 X[j] := by
  unfold stAt
  rw [coreOf_snoc X hj]
  exact ⟨rfl, rfl⟩
theorem coF_of {W w : World} {L : List Ent} {X : List EntS} {j : Nat} {a : CoA} {i : InA} (h : Own W w L) (hj : j ≤ X.length) (hl : X.length ≤ 1000) (h1 : ∀ e ∈ coPs a (stAt X j).1 i (stAt X j).2, e ∈ L) (h2 : ∀ e ∈ inPs i (stAt X j).2, e ∈ L) : CoF w a (stAt X j).1 i (stAt X j).2 := by
  obtain ⟨inv, ids, len⟩ := stAt_ok X hj hl
  exact ⟨coAt_H h h1, inFormH h h2, by omega, inv.ok.len, idsIn ids inv.ok.len⟩
theorem mem_co {Z Y e : Ent} {A B : List Ent} (h : e ∈ A) : e ∈ Z :: Y :: (A ++ B) := List.mem_cons_of_mem _ (List.mem_cons_of_mem _ (List.mem_append_left _ h))
theorem mem_in {Z Y e : Ent} {A B C : List Ent} (h : e ∈ B) : e ∈ Z :: Y :: (A ++ (B ++ C)) := List.mem_cons_of_mem _ (List.mem_cons_of_mem _ (List.mem_append_right _ (List.mem_append_left _ h)))
theorem told_st {W w : World} {Z : Ent} {M : List Ent} {r n c j : Nat} {u : Option Addr} {X : List EntS} {a : CoA} {i : InA} (HO : Own W w (Z :: rpL r u n c X j a i M)) (hj : j ≤ X.length) (hl : X.length ≤ 1000) (y : HisI) (hy : LineOk y) :
    Calls Tryz.prog 150 #[.pointer (some ⟨r, 0, none⟩), .agg (hisC y).toArray] w fun e w' => e = .returned (.bool (toldH (stAt X j).1 (stAt X j).2 y.x)) ∧ Below w.heap.size w w' := by
  unfold rpL at HO
  exact told_any (j := j) (HO.has _ (.tail _ (.head _))) (coF_of HO hj hl (fun e he => mem_co he) (fun e he => mem_in he)) y hy
theorem changed_st {W w : World} {Z : Ent} {M : List Ent} {r c j : Nat} {u : Option Addr} {X : List EntS} {es : List EntI} {a : CoA} {i : InA} (hE : IsEnts W (.slice u es.length c) es) (hX : X = es.map (·.x)) (HO : Own W w (Z :: rpL r u es.length c X j a i M)) (hj : j ≤ X.length) (hl : X.length ≤ 1000) (y : HisI) (hy : LineOk y) :
    Calls Tryz.prog 148 #[.pointer (some ⟨r, 0, none⟩), .agg (hisC y).toArray] w fun e w' => e = .returned (.bool (chgdH X j y.x)) ∧ Below w.heap.size w w' := by
  have hlen : X.length = es.length := by rw [hX, List.length_map]
  have hF := coF_of HO hj hl (fun e he => mem_co he) (fun e he => mem_in he)
  unfold rpL at HO
  by_cases h9 : j < es.length
  · have h1 := changed_any (hE.below HO.grown) h9 (HO.has _ (.tail _ (.head _))) hF y hy
    rw [chgdH_at (by omega)]
    subst hX
    rw [List.getElem_map]
    exact h1
  · obtain rfl : j = es.length := by omega
    have h1 := changedEnd_any (HO.has _ (.tail _ (.head _))) hF y hy
    rw [← hlen, chgdH_end]
    exact h1
theorem permZ (Z Y : Ent) (A B M : List Ent) : (Z :: Y :: (A ++ (B ++ M))).Perm (Y :: (A ++ (B ++ (Z :: M)))) := by
  have h1 := (List.perm_middle (a := Z) (l₁ := A ++ B) (l₂ := M)).symm
  have h2 : (Z :: (A ++ (B ++ M))).Perm (A ++ (B ++ (Z :: M))) := by simpa [List.append_assoc] using h1
  exact (List.Perm.swap Y Z _).trans (h2.cons Y)
theorem nextEnd_st {W w : World} {Z : Ent} {M : List Ent} {r c n : Nat} {u : Option Addr} {X : List EntS} {a : CoA} {i : InA} (HO : Own W w (Z :: rpL r u n c X n a i M)) :
    Calls Tryz.prog 149 #[.pointer (some ⟨r, 0, none⟩)] w fun e w' => e = .returned (.bool false) ∧ Own W w' (Z :: rpL r u n c X n a i M) := by
  unfold rpL at HO ⊢
  exact (nextEnd_any HO.swap).mono fun e w' ⟨he, h⟩ => ⟨he, h.swap⟩
theorem next_st {W w : World} {Z : Ent} {M : List Ent} {r c j : Nat} {u : Option Addr} {X : List EntS} {es : List EntI} {a : CoA} {i : InA} (hE : IsEnts W (.slice u es.length c) es) (hX : X = es.map (·.x)) (HO : Own W w (Z :: rpL r u es.length c X j a i M)) (hj : j < X.length) (hl : X.length ≤ 1000) (hL : LaidE W) :
    Calls Tryz.prog 149 #[.pointer (some ⟨r, 0, none⟩)] w fun e w' => e = .returned (.bool true) ∧ ∃ (a' : CoA) (i' : InA), a'.c = a.c ∧ Own W w' (Z :: rpL r u es.length c X (j + 1) a' i' M) := by
  have hlen : X.length = es.length := by rw [hX, List.length_map]
  obtain ⟨inv, ids, len⟩ := stAt_ok X (Nat.le_of_lt hj) hl
  obtain ⟨hS, hA⟩ := stAt_snoc X hj
  unfold rpL at HO ⊢
  have h1 := next_any' (M := Z :: M) hE (by omega) (by omega) (HO.perm (permZ _ _ _ _ _)) inv.inok inv.ok (by omega) hL
  refine h1.mono fun e w' ⟨he, u', v', i', h⟩ => ⟨he, { a with u := u', v := v' }, i', rfl, ?_⟩
  have hXj : X[j] = (es[j]'(by omega)).x := by subst hX; rw [List.getElem_map]
  rw [hS, hA, hXj]
  exact h.perm (permZ _ _ _ _ _).symm

set_option maxHeartbeats 32000000 in
set_option maxRecDepth 100000 in
theorem fits_any {W w : World} {M : List Ent} {r c j : Nat} {u : Option Addr} {X : List EntS} {es : List EntI} {a : CoA} {i : InA} (hE : IsEnts W (.slice u es.length c) es) (hX : X = es.map (·.x)) (HO : Own W w (rpL r u es.length c X j a i M)) (hj : j ≤ X.length) (hl : X.length ≤ 1000) (hL : LaidE W) (y : HisI) (hy : LineOk y) :
    Calls Tryz.prog 121 #[.pointer (some ⟨r, 0, none⟩), .agg (hisC y).toArray] w fun e w' => e = .returned (.bool (goesH X y.x (X.length - j) j).isSome) ∧ ∃ (j' : Nat) (a' : CoA) (i' : InA), j' ≤ X.length ∧ a'.c = a.c ∧ (∀ g, goesH X y.x (X.length - j) j = some g → j' = g) ∧ Own W w' (rpL r u es.length c X j' a' i' M) := by
  have TD := Lib.hid (fun (w : World) (Z : Ent) (j : Nat) (a : CoA) (i : InA) (h : Own W w (Z :: rpL r u es.length c X j a i M)) (hj : j ≤ X.length) => told_st h hj hl y hy)
  have CH := Lib.hid (fun (w : World) (Z : Ent) (j : Nat) (a : CoA) (i : InA) (h : Own W w (Z :: rpL r u es.length c X j a i M)) (hj : j ≤ X.length) => changed_st hE hX h hj hl y hy)
  have NX := Lib.hid (fun (w : World) (Z : Ent) (j : Nat) (a : CoA) (i : InA) (h : Own W w (Z :: rpL r u es.length c X j a i M)) (hj : j < X.length) => next_st hE hX h hj hl hL)
  have hlen : X.length = es.length := by rw [hX, List.length_map]
  obtain ⟨G, hG⟩ : ∃ G, G = goesH X y.x (X.length - j) j := ⟨_, rfl⟩
  rw [← hG]
  clear hE hX hL hy
  obtain ⟨x, t, kp, kn, kc, r0, r1, r2, dp, dn, dc⟩ := y
  simp only [hisC] at TD CH hG ⊢
  have hc : chgH x = ((x.err == 0) && (x.k == 1 || x.k == 2)) := rfl
  generalize hn : es.length = n at *
  replace hG := Lib.hid hG
  replace hn := Lib.hid hn
  cases h0 : (x.err == 0) with
  | false =>
    have hcf : chgH x = false := by rw [hc, h0]; rfl
    replace hc := Lib.hid hc
    go_enter Tryz.func121, Tryz.ntmps121
    go_wp2_with (first | go_big_skip | (((with_reducible apply wpList_loadOne HO); exact rfl; exact rfl; (repeat (with_reducible (exact At.head _))); exact rfl; infer_instance; exact rfl; (simp only [Act.put, zA, zB, zC]))) | (((with_reducible apply wpList_boxAgg _ HO rfl); exact rfl; exact rfl; exact rfl; clear HO; intro b3 w HO; (simp only [Act.put, zA, zB, zC]))))
    go_loopg [4] (X.length - j + 1) (fun g c4 wr => ∃ (j' : Nat) (a' : CoA) (i' : InA), j' ≤ X.length ∧ g = X.length - j' + 1 ∧ a'.c = a.c ∧ G = goesH X x (X.length - j') j' ∧ Own W wr (box b3 (.cells #[.int .i64 x.k, .int .i64 x.o.id, .string ⟨x.o.ref.toArray⟩, .string ⟨x.o.sku.toArray⟩, .int .i64 x.o.qty, .int .i64 x.o.amt, .int .i64 x.a, .int .i64 x.b, .string ⟨t.toArray⟩, .slice kp kn kc, .int .i64 x.err, .int .i64 r0, .int .i64 r1, .int .i64 r2, .int .i64 x.id, .int .i64 x.amt, .int .i64 x.so.id, .string ⟨x.so.ref.toArray⟩, .string ⟨x.so.sku.toArray⟩, .int .i64 x.so.qty, .int .i64 x.so.amt, .int .i64 x.sd.a, .int .i64 x.sd.b, .int .i64 x.sd.c, .int .i64 x.sd.d, .int .i64 x.sd.e, .int .i64 x.sd.f, .bool x.sd.x, .slice dp dn dc] 123) :: rpL r u n c X j' a' i' M))
    case atStart => exact ⟨j, a, i, hj, rfl, rfl, hG.out, HO⟩
    case round =>
      clear HO
      obtain ⟨j', a', i', hj', hg, hac, hGj, HO⟩ := hrel
      have HG := Lib.hid hGj
      have HC := Lib.hid hac
      replace hg := Lib.hid hg
      clear hGj hac
      cases hb : toldH (stAt X j').1 (stAt X j').2 x with
      | true =>
        have HY := Lib.hid (goesH_yes (X.length - j') (show fitsB X j' x = true by unfold fitsB; rw [if_neg (by rw [hcf]; simp)]; exact hb))
        go_wp2_with (first | (((with_reducible apply wpList_loadAll HO); exact rfl; exact rfl; (repeat (with_reducible (exact At.head _))); infer_instance; exact rfl; exact rfl; (simp only [Act.put, zA, zB, zC]))) | (go_at_call 150; go_must ((with_reducible refine (TD.out _ _ _ _ _ HO hj').mono ?_); rw [hb]; rintro e w ⟨rfl, hb9⟩; replace HO := HO.call hb9; clear hb9)))
        go_ret
        have HQ := HG.out.trans HY.out
        exact ⟨by rw [HQ]; rfl, j', a', i', hj', HC.out, by rw [HQ, if_neg (by rw [hcf]; simp)]; intro g h; exact Option.some.inj h, HO.tail⟩
      | false =>
        have HN := Lib.hid (show fitsB X j' x = false by unfold fitsB; rw [if_neg (by rw [hcf]; simp)]; exact hb)
        by_cases hjl : j' < X.length
        · go_wp2_with (first | (((with_reducible apply wpList_loadAll HO); exact rfl; exact rfl; (repeat (with_reducible (exact At.head _))); infer_instance; exact rfl; exact rfl; (simp only [Act.put, zA, zB, zC]))) | (go_at_call 150; go_must ((with_reducible refine (TD.out _ _ _ _ _ HO hj').mono ?_); rw [hb]; rintro e w ⟨rfl, hb9⟩; replace HO := HO.call hb9; clear hb9)) | (go_at_call 149; go_must ((with_reducible refine (NX.out _ _ _ _ _ HO hjl).mono ?_); clear HO; rintro e w ⟨rfl, a9, i9, ha9, HO⟩)))
          go_roundg (X.length - (j' + 1) + 1)
          case measure => have := hg.out; omega
          case rel => exact ⟨j' + 1, a9, i9, hjl, rfl, ha9.trans HC.out, HG.out.trans (goesH_no hjl HN.out), HO⟩
        · obtain rfl : j' = X.length := by omega
          have HZ := Lib.hid (HG.out.trans (goesH_end HN.out))
          have hXn := hlen
          have NE := Lib.hid (fun (w : World) (Z : Ent) (h : Own W w (Z :: rpL r u n c X X.length a' i' M)) => show Calls Tryz.prog 149 #[.pointer (some ⟨r, 0, none⟩)] w fun e w' => e = .returned (.bool false) ∧ Own W w' (Z :: rpL r u n c X X.length a' i' M) by
            rw [hlen] at h ⊢; exact nextEnd_st h)
          clear hXn
          go_wp2_with (first | (((with_reducible apply wpList_loadAll HO); exact rfl; exact rfl; (repeat (with_reducible (exact At.head _))); infer_instance; exact rfl; exact rfl; (simp only [Act.put, zA, zB, zC]))) | (go_at_call 150; go_must ((with_reducible refine (TD.out _ _ _ _ _ HO hj').mono ?_); rw [hb]; rintro e w ⟨rfl, hb9⟩; replace HO := HO.call hb9; clear hb9)) | (go_at_call 149; go_must ((with_reducible refine (NE.out _ _ HO).mono ?_); clear HO; rintro e w ⟨rfl, HO⟩)))
          go_ret
          exact ⟨by rw [HZ.out]; rfl, X.length, a', i', Nat.le_refl _, HC.out, (fun g h => by rw [HZ.out] at h; cases h), HO.tail⟩
  | true =>
    cases h1 : (x.k == 1) with
    | true =>
      have hct : chgH x = true := by rw [hc, h0, h1]; rfl
      replace hc := Lib.hid hc
      go_enter Tryz.func121, Tryz.ntmps121
      go_wp2_with (first | go_big_skip | (((with_reducible apply wpList_loadOne HO); exact rfl; exact rfl; (repeat (with_reducible (exact At.head _))); exact rfl; infer_instance; exact rfl; (simp only [Act.put, zA, zB, zC]))) | (((with_reducible apply wpList_boxAgg _ HO rfl); exact rfl; exact rfl; exact rfl; clear HO; intro b3 w HO; (simp only [Act.put, zA, zB, zC]))))
      go_loopg [4] (X.length - j + 1) (fun g c4 wr => ∃ (j' : Nat) (a' : CoA) (i' : InA), j' ≤ X.length ∧ g = X.length - j' + 1 ∧ a'.c = a.c ∧ G = goesH X x (X.length - j') j' ∧ Own W wr (box b3 (.cells #[.int .i64 x.k, .int .i64 x.o.id, .string ⟨x.o.ref.toArray⟩, .string ⟨x.o.sku.toArray⟩, .int .i64 x.o.qty, .int .i64 x.o.amt, .int .i64 x.a, .int .i64 x.b, .string ⟨t.toArray⟩, .slice kp kn kc, .int .i64 x.err, .int .i64 r0, .int .i64 r1, .int .i64 r2, .int .i64 x.id, .int .i64 x.amt, .int .i64 x.so.id, .string ⟨x.so.ref.toArray⟩, .string ⟨x.so.sku.toArray⟩, .int .i64 x.so.qty, .int .i64 x.so.amt, .int .i64 x.sd.a, .int .i64 x.sd.b, .int .i64 x.sd.c, .int .i64 x.sd.d, .int .i64 x.sd.e, .int .i64 x.sd.f, .bool x.sd.x, .slice dp dn dc] 123) :: rpL r u n c X j' a' i' M))
      case atStart => exact ⟨j, a, i, hj, rfl, rfl, hG.out, HO⟩
      case round =>
        clear HO
        obtain ⟨j', a', i', hj', hg, hac, hGj, HO⟩ := hrel
        have HG := Lib.hid hGj
        have HC := Lib.hid hac
        replace hg := Lib.hid hg
        clear hGj hac
        cases hb : chgdH X j' x with
        | true =>
          have HY := Lib.hid (goesH_yes (X.length - j') (show fitsB X j' x = true by unfold fitsB; rw [if_pos hct]; exact hb))
          have hjl : j' < X.length := by
            apply Classical.byContradiction
            intro h9
            obtain rfl : j' = X.length := by omega
            rw [chgdH_end] at hb
            cases hb
          go_wp2_with (first | (((with_reducible apply wpList_loadAll HO); exact rfl; exact rfl; (repeat (with_reducible (exact At.head _))); infer_instance; exact rfl; exact rfl; (simp only [Act.put, zA, zB, zC]))) | (go_at_call 148; go_must ((with_reducible refine (CH.out _ _ _ _ _ HO hj').mono ?_); rw [hb]; rintro e w ⟨rfl, hb9⟩; replace HO := HO.call hb9; clear hb9)) | (go_at_call 149; go_must ((with_reducible refine (NX.out _ _ _ _ _ HO hjl).mono ?_); clear HO; rintro e w ⟨rfl, a9, i9, ha9, HO⟩)))
          go_ret
          have HQ := HG.out.trans HY.out
          exact ⟨by rw [HQ]; rfl, j' + 1, a9, i9, hjl, ha9.trans HC.out, by rw [HQ, if_pos hct]; intro g h; exact Option.some.inj h, HO.tail⟩
        | false =>
          have HN := Lib.hid (show fitsB X j' x = false by unfold fitsB; rw [if_pos hct]; exact hb)
          by_cases hjl : j' < X.length
          · go_wp2_with (first | (((with_reducible apply wpList_loadAll HO); exact rfl; exact rfl; (repeat (with_reducible (exact At.head _))); infer_instance; exact rfl; exact rfl; (simp only [Act.put, zA, zB, zC]))) | (go_at_call 148; go_must ((with_reducible refine (CH.out _ _ _ _ _ HO hj').mono ?_); rw [hb]; rintro e w ⟨rfl, hb9⟩; replace HO := HO.call hb9; clear hb9)) | (go_at_call 149; go_must ((with_reducible refine (NX.out _ _ _ _ _ HO hjl).mono ?_); clear HO; rintro e w ⟨rfl, a9, i9, ha9, HO⟩)))
            go_roundg (X.length - (j' + 1) + 1)
            case measure => have := hg.out; omega
            case rel => exact ⟨j' + 1, a9, i9, hjl, rfl, ha9.trans HC.out, HG.out.trans (goesH_no hjl HN.out), HO⟩
          · obtain rfl : j' = X.length := by omega
            have HZ := Lib.hid (HG.out.trans (goesH_end HN.out))
            have hXn := hlen
            have NE := Lib.hid (fun (w : World) (Z : Ent) (h : Own W w (Z :: rpL r u n c X X.length a' i' M)) => show Calls Tryz.prog 149 #[.pointer (some ⟨r, 0, none⟩)] w fun e w' => e = .returned (.bool false) ∧ Own W w' (Z :: rpL r u n c X X.length a' i' M) by
              rw [hlen] at h ⊢; exact nextEnd_st h)
            clear hXn
            go_wp2_with (first | (((with_reducible apply wpList_loadAll HO); exact rfl; exact rfl; (repeat (with_reducible (exact At.head _))); infer_instance; exact rfl; exact rfl; (simp only [Act.put, zA, zB, zC]))) | (go_at_call 148; go_must ((with_reducible refine (CH.out _ _ _ _ _ HO hj').mono ?_); rw [hb]; rintro e w ⟨rfl, hb9⟩; replace HO := HO.call hb9; clear hb9)) | (go_at_call 149; go_must ((with_reducible refine (NE.out _ _ HO).mono ?_); clear HO; rintro e w ⟨rfl, HO⟩)))
            go_ret
            exact ⟨by rw [HZ.out]; rfl, X.length, a', i', Nat.le_refl _, HC.out, (fun g h => by rw [HZ.out] at h; cases h), HO.tail⟩
    | false =>
      cases h2 : (x.k == 2) with
      | true =>
        have hct : chgH x = true := by rw [hc, h0, h1, h2]; rfl
        replace hc := Lib.hid hc
        go_enter Tryz.func121, Tryz.ntmps121
        go_wp2_with (first | (((with_reducible apply wpList_loadOne HO); exact rfl; exact rfl; (repeat (with_reducible (exact At.head _))); exact rfl; infer_instance; exact rfl; (simp only [Act.put, zA, zB, zC]))) | (((with_reducible apply wpList_boxAgg _ HO rfl); exact rfl; exact rfl; exact rfl; clear HO; intro b3 w HO; (simp only [Act.put, zA, zB, zC]))))
        go_loopg [4] (X.length - j + 1) (fun g c4 wr => ∃ (j' : Nat) (a' : CoA) (i' : InA), j' ≤ X.length ∧ g = X.length - j' + 1 ∧ a'.c = a.c ∧ G = goesH X x (X.length - j') j' ∧ Own W wr (box b3 (.cells #[.int .i64 x.k, .int .i64 x.o.id, .string ⟨x.o.ref.toArray⟩, .string ⟨x.o.sku.toArray⟩, .int .i64 x.o.qty, .int .i64 x.o.amt, .int .i64 x.a, .int .i64 x.b, .string ⟨t.toArray⟩, .slice kp kn kc, .int .i64 x.err, .int .i64 r0, .int .i64 r1, .int .i64 r2, .int .i64 x.id, .int .i64 x.amt, .int .i64 x.so.id, .string ⟨x.so.ref.toArray⟩, .string ⟨x.so.sku.toArray⟩, .int .i64 x.so.qty, .int .i64 x.so.amt, .int .i64 x.sd.a, .int .i64 x.sd.b, .int .i64 x.sd.c, .int .i64 x.sd.d, .int .i64 x.sd.e, .int .i64 x.sd.f, .bool x.sd.x, .slice dp dn dc] 123) :: rpL r u n c X j' a' i' M))
        case atStart => exact ⟨j, a, i, hj, rfl, rfl, hG.out, HO⟩
        case round =>
          clear HO
          obtain ⟨j', a', i', hj', hg, hac, hGj, HO⟩ := hrel
          have HG := Lib.hid hGj
          have HC := Lib.hid hac
          replace hg := Lib.hid hg
          clear hGj hac
          cases hb : chgdH X j' x with
          | true =>
            have HY := Lib.hid (goesH_yes (X.length - j') (show fitsB X j' x = true by unfold fitsB; rw [if_pos hct]; exact hb))
            have hjl : j' < X.length := by
              apply Classical.byContradiction
              intro h9
              obtain rfl : j' = X.length := by omega
              rw [chgdH_end] at hb
              cases hb
            go_wp2_with (first | (((with_reducible apply wpList_loadAll HO); exact rfl; exact rfl; (repeat (with_reducible (exact At.head _))); infer_instance; exact rfl; exact rfl; (simp only [Act.put, zA, zB, zC]))) | (go_at_call 148; go_must ((with_reducible refine (CH.out _ _ _ _ _ HO hj').mono ?_); rw [hb]; rintro e w ⟨rfl, hb9⟩; replace HO := HO.call hb9; clear hb9)) | (go_at_call 149; go_must ((with_reducible refine (NX.out _ _ _ _ _ HO hjl).mono ?_); clear HO; rintro e w ⟨rfl, a9, i9, ha9, HO⟩)))
            go_ret
            have HQ := HG.out.trans HY.out
            exact ⟨by rw [HQ]; rfl, j' + 1, a9, i9, hjl, ha9.trans HC.out, by rw [HQ, if_pos hct]; intro g h; exact Option.some.inj h, HO.tail⟩
          | false =>
            have HN := Lib.hid (show fitsB X j' x = false by unfold fitsB; rw [if_pos hct]; exact hb)
            by_cases hjl : j' < X.length
            · go_wp2_with (first | (((with_reducible apply wpList_loadAll HO); exact rfl; exact rfl; (repeat (with_reducible (exact At.head _))); infer_instance; exact rfl; exact rfl; (simp only [Act.put, zA, zB, zC]))) | (go_at_call 148; go_must ((with_reducible refine (CH.out _ _ _ _ _ HO hj').mono ?_); rw [hb]; rintro e w ⟨rfl, hb9⟩; replace HO := HO.call hb9; clear hb9)) | (go_at_call 149; go_must ((with_reducible refine (NX.out _ _ _ _ _ HO hjl).mono ?_); clear HO; rintro e w ⟨rfl, a9, i9, ha9, HO⟩)))
              go_roundg (X.length - (j' + 1) + 1)
              case measure => have := hg.out; omega
              case rel => exact ⟨j' + 1, a9, i9, hjl, rfl, ha9.trans HC.out, HG.out.trans (goesH_no hjl HN.out), HO⟩
            · obtain rfl : j' = X.length := by omega
              have HZ := Lib.hid (HG.out.trans (goesH_end HN.out))
              have hXn := hlen
              have NE := Lib.hid (fun (w : World) (Z : Ent) (h : Own W w (Z :: rpL r u n c X X.length a' i' M)) => show Calls Tryz.prog 149 #[.pointer (some ⟨r, 0, none⟩)] w fun e w' => e = .returned (.bool false) ∧ Own W w' (Z :: rpL r u n c X X.length a' i' M) by
                rw [hlen] at h ⊢; exact nextEnd_st h)
              clear hXn
              go_wp2_with (first | (((with_reducible apply wpList_loadAll HO); exact rfl; exact rfl; (repeat (with_reducible (exact At.head _))); infer_instance; exact rfl; exact rfl; (simp only [Act.put, zA, zB, zC]))) | (go_at_call 148; go_must ((with_reducible refine (CH.out _ _ _ _ _ HO hj').mono ?_); rw [hb]; rintro e w ⟨rfl, hb9⟩; replace HO := HO.call hb9; clear hb9)) | (go_at_call 149; go_must ((with_reducible refine (NE.out _ _ HO).mono ?_); clear HO; rintro e w ⟨rfl, HO⟩)))
              go_ret
              exact ⟨by rw [HZ.out]; rfl, X.length, a', i', Nat.le_refl _, HC.out, (fun g h => by rw [HZ.out] at h; cases h), HO.tail⟩
      | false =>
        have hcf : chgH x = false := by rw [hc, h0, h1, h2]; rfl
        replace hc := Lib.hid hc
        go_enter Tryz.func121, Tryz.ntmps121
        go_wp2_with (first | (((with_reducible apply wpList_loadOne HO); exact rfl; exact rfl; (repeat (with_reducible (exact At.head _))); exact rfl; infer_instance; exact rfl; (simp only [Act.put, zA, zB, zC]))) | (((with_reducible apply wpList_boxAgg _ HO rfl); exact rfl; exact rfl; exact rfl; clear HO; intro b3 w HO; (simp only [Act.put, zA, zB, zC]))))
        go_loopg [4] (X.length - j + 1) (fun g c4 wr => ∃ (j' : Nat) (a' : CoA) (i' : InA), j' ≤ X.length ∧ g = X.length - j' + 1 ∧ a'.c = a.c ∧ G = goesH X x (X.length - j') j' ∧ Own W wr (box b3 (.cells #[.int .i64 x.k, .int .i64 x.o.id, .string ⟨x.o.ref.toArray⟩, .string ⟨x.o.sku.toArray⟩, .int .i64 x.o.qty, .int .i64 x.o.amt, .int .i64 x.a, .int .i64 x.b, .string ⟨t.toArray⟩, .slice kp kn kc, .int .i64 x.err, .int .i64 r0, .int .i64 r1, .int .i64 r2, .int .i64 x.id, .int .i64 x.amt, .int .i64 x.so.id, .string ⟨x.so.ref.toArray⟩, .string ⟨x.so.sku.toArray⟩, .int .i64 x.so.qty, .int .i64 x.so.amt, .int .i64 x.sd.a, .int .i64 x.sd.b, .int .i64 x.sd.c, .int .i64 x.sd.d, .int .i64 x.sd.e, .int .i64 x.sd.f, .bool x.sd.x, .slice dp dn dc] 123) :: rpL r u n c X j' a' i' M))
        case atStart => exact ⟨j, a, i, hj, rfl, rfl, hG.out, HO⟩
        case round =>
          clear HO
          obtain ⟨j', a', i', hj', hg, hac, hGj, HO⟩ := hrel
          have HG := Lib.hid hGj
          have HC := Lib.hid hac
          replace hg := Lib.hid hg
          clear hGj hac
          cases hb : toldH (stAt X j').1 (stAt X j').2 x with
          | true =>
            have HY := Lib.hid (goesH_yes (X.length - j') (show fitsB X j' x = true by unfold fitsB; rw [if_neg (by rw [hcf]; simp)]; exact hb))
            go_wp2_with (first | (((with_reducible apply wpList_loadAll HO); exact rfl; exact rfl; (repeat (with_reducible (exact At.head _))); infer_instance; exact rfl; exact rfl; (simp only [Act.put, zA, zB, zC]))) | (go_at_call 150; go_must ((with_reducible refine (TD.out _ _ _ _ _ HO hj').mono ?_); rw [hb]; rintro e w ⟨rfl, hb9⟩; replace HO := HO.call hb9; clear hb9)))
            go_ret
            have HQ := HG.out.trans HY.out
            exact ⟨by rw [HQ]; rfl, j', a', i', hj', HC.out, by rw [HQ, if_neg (by rw [hcf]; simp)]; intro g h; exact Option.some.inj h, HO.tail⟩
          | false =>
            have HN := Lib.hid (show fitsB X j' x = false by unfold fitsB; rw [if_neg (by rw [hcf]; simp)]; exact hb)
            by_cases hjl : j' < X.length
            · go_wp2_with (first | (((with_reducible apply wpList_loadAll HO); exact rfl; exact rfl; (repeat (with_reducible (exact At.head _))); infer_instance; exact rfl; exact rfl; (simp only [Act.put, zA, zB, zC]))) | (go_at_call 150; go_must ((with_reducible refine (TD.out _ _ _ _ _ HO hj').mono ?_); rw [hb]; rintro e w ⟨rfl, hb9⟩; replace HO := HO.call hb9; clear hb9)) | (go_at_call 149; go_must ((with_reducible refine (NX.out _ _ _ _ _ HO hjl).mono ?_); clear HO; rintro e w ⟨rfl, a9, i9, ha9, HO⟩)))
              go_roundg (X.length - (j' + 1) + 1)
              case measure => have := hg.out; omega
              case rel => exact ⟨j' + 1, a9, i9, hjl, rfl, ha9.trans HC.out, HG.out.trans (goesH_no hjl HN.out), HO⟩
            · obtain rfl : j' = X.length := by omega
              have HZ := Lib.hid (HG.out.trans (goesH_end HN.out))
              have hXn := hlen
              have NE := Lib.hid (fun (w : World) (Z : Ent) (h : Own W w (Z :: rpL r u n c X X.length a' i' M)) => show Calls Tryz.prog 149 #[.pointer (some ⟨r, 0, none⟩)] w fun e w' => e = .returned (.bool false) ∧ Own W w' (Z :: rpL r u n c X X.length a' i' M) by
                rw [hlen] at h ⊢; exact nextEnd_st h)
              clear hXn
              go_wp2_with (first | (((with_reducible apply wpList_loadAll HO); exact rfl; exact rfl; (repeat (with_reducible (exact At.head _))); infer_instance; exact rfl; exact rfl; (simp only [Act.put, zA, zB, zC]))) | (go_at_call 150; go_must ((with_reducible refine (TD.out _ _ _ _ _ HO hj').mono ?_); rw [hb]; rintro e w ⟨rfl, hb9⟩; replace HO := HO.call hb9; clear hb9)) | (go_at_call 149; go_must ((with_reducible refine (NE.out _ _ HO).mono ?_); clear HO; rintro e w ⟨rfl, HO⟩)))
              go_ret
              exact ⟨by rw [HZ.out]; rfl, X.length, a', i', Nat.le_refl _, HC.out, (fun g h => by rw [HZ.out] at h; cases h), HO.tail⟩
end Go.Proofs.YtibabfedpdoofaaGreatDoor
namespace Go.Proofs.YtibabfedpdoofaaGreatDoor
open Go.RowKit Go.Own Go.Maps

theorem fits_st {W w : World} {Z : Ent} {M : List Ent} {r c j : Nat} {u : Option Addr} {X : List EntS} {es : List EntI} {a : CoA} {i : InA} (hE : IsEnts W (.slice u es.length c) es) (hX : X = es.map (·.x)) (HO : Own W w (Z :: rpL r u es.length c X j a i M)) (hj : j ≤ X.length) (hl : X.length ≤ 1000) (hL : LaidE W) (y : HisI) (hy : LineOk y) :
    Calls Tryz.prog 121 #[.pointer (some ⟨r, 0, none⟩), .agg (hisC y).toArray] w fun e w' => e = .returned (.bool (goesH X y.x (X.length - j) j).isSome) ∧ ∃ (j' : Nat) (a' : CoA) (i' : InA), j' ≤ X.length ∧ a'.c = a.c ∧ (∀ g, goesH X y.x (X.length - j) j = some g → j' = g) ∧ Own W w' (Z :: rpL r u es.length c X j' a' i' M) := by
  have h1 := fits_any (M := Z :: M) hE hX (by unfold rpL at HO ⊢; exact HO.perm (permZ _ _ _ _ _)) hj hl hL y hy
  refine h1.mono fun e w' ⟨he, j', a', i', h2, h3, h4, h5⟩ => ⟨he, j', a', i', h2, h3, h4, ?_⟩
  unfold rpL at h5 ⊢
  exact h5.perm (permZ _ _ _ _ _).symm

set_option maxHeartbeats 32000000 in
set_option maxRecDepth 100000 in
theorem check_any {W : World} {vl vj : Value} {ys : List HisI} {es : List EntI} (hY : IsLines W vl ys) (hE : IsEnts W vj es) (hle : es.length ≤ 1000) (hL : LaidE W) :
    Calls Tryz.prog 62 #[vl, vj] W fun e w' => e = .returned (.int .i64 (checkH (es.map (·.x)) (ys.map (·.x)) 0 0)) ∧ Below W.heap.size W w' := by
  have HO := Own.start W
  obtain ⟨sp, sc, rfl, hmx⟩ := hE.l.slice
  rw [List.length_map] at hmx hE ⊢
  obtain ⟨lp, lc, rfl, hml⟩ := hY.l.slice
  rw [List.length_map] at hml hY ⊢
  have hml' : (ys.length : Int) ≤ 9223372036854775807 := by unfold maxLen at hml; omega
  obtain ⟨X, hX⟩ : ∃ X, X = es.map (·.x) := ⟨_, rfl⟩
  have hXl : X.length ≤ 1000 := by rw [hX, List.length_map]; exact hle
  have FT := Lib.hid (fun (w : World) (Z : Ent) (M : List Ent) (r j : Nat) (a : CoA) (i : InA) (y : HisI) (h : Own W w (Z :: rpL r sp es.length sc X j a i M)) (hj : j ≤ X.length) (hy : LineOk y) => fits_st hE hX h hj hXl hL y hy)
  have HY := Lib.hid hY.l
  have HYR := Lib.hid hY.r
  rw [← hX]
  obtain ⟨R, hR⟩ : ∃ R, R = checkH X (ys.map (·.x)) 0 0 := ⟨_, rfl⟩
  rw [← hR]
  replace hR := Lib.hid hR
  have hZ : (stAt X 0).1 = ⟨[], []⟩ ∧ (stAt X 0).2 = zeroI := ⟨rfl, rfl⟩
  have HZ := Lib.hid hZ
  clear hY hE hX hL hZ hXl hle
  generalize es.length = n at *
  go_enter Tryz.func62, Tryz.ntmps62
  go_wp2_with (first | (go_at_call 25; go_must ((with_reducible refine (coNew_any _).mono ?_); rintro e w ⟨a, rfl, HO1⟩; replace HO := HO.lift HO1; clear HO1)) | (((with_reducible apply wpList_boxAgg _ HO rfl); exact rfl; exact rfl; exact rfl; clear HO; intro b5 w HO; (simp only [Act.put, zA, zB, zC]))))
  have HI : Own W w (rpL b5 sp n sc X 0 a inNil []) := by
    unfold rpL
    rw [HZ.out.1, HZ.out.2]
    exact HO.perm (by classical exact List.perm_iff_count.2 (fun x9 => by simp only [rpB, List.count_append, List.count_cons, List.count_nil, Nat.add_zero]; ac_rfl))
  clear HO HZ
  go_loopw [14] (fun iv wr => ∃ (k j : Nat) (a' : CoA) (i' : InA) (N : List Ent), k ≤ ys.length ∧ iv = .int .i64 (k : Int) ∧ j ≤ X.length ∧ R = checkH X ((ys.map (·.x)).drop k) k j ∧ Own W wr (rpL b5 sp n sc X j a' i' N) ∧ a'.c = a.c) (fun iv _ => ys.length - (intOf iv).toNat)
  case atStart => exact ⟨0, 0, a, inNil, [], by omega, rfl, by omega, by rw [List.drop_zero]; exact hR.out, HI, rfl⟩
  case round =>
    clear HI
    obtain ⟨k, j, a', i', N, hk, rfl, hj, hRk, HO, hac⟩ := hrel
    have HR := Lib.hid hRk
    have HAC := Lib.hid hac
    clear hRk hac
    by_cases hkl : k < ys.length
    · have hkI : (k : Int) < (ys.length : Int) := by omega
      obtain ⟨q, rfl, hst⟩ := oldAt HY.out rfl hkl
      have hy := HYR.out _ (List.getElem_mem hkl)
      have hkx : k < (ys.map (·.x)).length := by rw [List.length_map]; exact hkl
      have HSK := Lib.hid (fun (h : takesH ys[k].x = false) => checkH_skip (es := X) (j := j) hkx (by rw [List.getElem_map]; exact h))
      have HGO := Lib.hid (fun (j' : Nat) (h : takesH ys[k].x = true) (hg : goesH X ys[k].x (X.length - j) j = some j') => checkH_goes (es := X) (j := j) (j' := j') hkx (by rw [List.getElem_map]; exact h) (by rw [List.getElem_map]; exact hg))
      have HNO := Lib.hid (fun (h : takesH ys[k].x = true) (hg : goesH X ys[k].x (X.length - j) j = none) => checkH_none (es := X) (j := j) hkx (by rw [List.getElem_map]; exact h) (by rw [List.getElem_map]; exact hg))
      clear hkx
      generalize ys[k] = y at *
      have TK := fun w => takes_any y w
      have FK := Lib.hid (fun (w : World) (Z : Ent) (h : Own W w (Z :: rpL b5 sp n sc X j a' i' N)) => FT.out w Z N b5 j a' i' y h hj hy)
      clear hy
      obtain ⟨x, t, kp, kn, kc, r0, r1, r2, dp, dn, dc⟩ := y
      simp only [hisC] at TK FK hst HSK HGO HNO
      replace hst := Lib.hid hst
      cases ht : takesH x with
      | false =>
        rw [ht] at TK
        have HQ := Lib.hid (HR.out.trans (HSK.out ht))
        clear HSK HGO HNO ht FK
        go_wp2_with (first | (((with_reducible apply wpList_loadAll HO); exact rfl; exact rfl; (repeat (with_reducible (exact At.head _))); infer_instance; exact rfl; exact rfl; (simp only [Act.put, zA, zB, zC]))) | ((with_reducible apply wpList_loadAt HO); exact rfl; exact rfl; exact (fun w' h1 => hst.out w' h1.grown); infer_instance; exact rfl; exact rfl; (simp only [Act.put, zA, zB, zC])) | (((with_reducible apply wpList_allocAgg _ HO rfl); exact rfl; infer_instance; exact rfl; clear HO; intro b7 w HO; (simp only [Act.put, zA, zB, zC]))) | ((with_reducible apply wpList_storeAll HO); exact rfl; exact rfl; exact rfl; (repeat (with_reducible (exact At.head _))); infer_instance; exact rfl; exact rfl; exact rfl; exact rfl; clear HO; intro w HO; (simp only [Act.put])) | (go_at_call 60; go_must ((with_reducible refine (TK _).mono ?_); rintro e w ⟨rfl, hb⟩; replace HO := HO.call hb; clear hb)))
        go_roundw
        case rel => exact ⟨k + 1, j, a', i', N, by omega, by go_num, hj, HQ.out, HO.tail, HAC.out⟩
        case measure => simp [intOf] <;> omega
      | true =>
        rw [ht] at TK
        cases hg : goesH X x (X.length - j) j with
        | none =>
          have HQ := Lib.hid (HR.out.trans (HNO.out ht hg))
          rw [hg] at FK
          clear HSK HGO HNO ht hg
          go_wp2_with (first | (((with_reducible apply wpList_loadAll HO); exact rfl; exact rfl; (repeat (with_reducible (exact At.head _))); infer_instance; exact rfl; exact rfl; (simp only [Act.put, zA, zB, zC]))) | ((with_reducible apply wpList_loadAt HO); exact rfl; exact rfl; exact (fun w' h1 => hst.out w' h1.grown); infer_instance; exact rfl; exact rfl; (simp only [Act.put, zA, zB, zC])) | (((with_reducible apply wpList_allocAgg _ HO rfl); exact rfl; infer_instance; exact rfl; clear HO; intro b7 w HO; (simp only [Act.put, zA, zB, zC]))) | ((with_reducible apply wpList_storeAll HO); exact rfl; exact rfl; exact rfl; (repeat (with_reducible (exact At.head _))); infer_instance; exact rfl; exact rfl; exact rfl; exact rfl; clear HO; intro w HO; (simp only [Act.put])) | (go_at_call 60; go_must ((with_reducible refine (TK _).mono ?_); rintro e w ⟨rfl, hb⟩; replace HO := HO.call hb; clear hb)) | (go_at_call 121; go_must ((with_reducible refine (FK.out _ _ HO).mono ?_); clear HO; rintro e w ⟨rfl, j9, a9, i9, hj9, ha9, hg9, HO⟩)))
          go_ret
          exact ⟨by rw [HQ.out]; rfl, HO.grown⟩
        | some g =>
          have HQ := Lib.hid (HR.out.trans (HGO.out g ht hg))
          rw [hg] at FK
          clear HSK HGO HNO ht hg
          go_wp2_with (first | (((with_reducible apply wpList_loadAll HO); exact rfl; exact rfl; (repeat (with_reducible (exact At.head _))); infer_instance; exact rfl; exact rfl; (simp only [Act.put, zA, zB, zC]))) | ((with_reducible apply wpList_loadAt HO); exact rfl; exact rfl; exact (fun w' h1 => hst.out w' h1.grown); infer_instance; exact rfl; exact rfl; (simp only [Act.put, zA, zB, zC])) | (((with_reducible apply wpList_allocAgg _ HO rfl); exact rfl; infer_instance; exact rfl; clear HO; intro b7 w HO; (simp only [Act.put, zA, zB, zC]))) | ((with_reducible apply wpList_storeAll HO); exact rfl; exact rfl; exact rfl; (repeat (with_reducible (exact At.head _))); infer_instance; exact rfl; exact rfl; exact rfl; exact rfl; clear HO; intro w HO; (simp only [Act.put])) | (go_at_call 60; go_must ((with_reducible refine (TK _).mono ?_); rintro e w ⟨rfl, hb⟩; replace HO := HO.call hb; clear hb)) | (go_at_call 121; go_must ((with_reducible refine (FK.out _ _ HO).mono ?_); clear HO; rintro e w ⟨rfl, j9, a9, i9, hj9, ha9, hg9, HO⟩; obtain rfl : j9 = g := hg9 g rfl; clear hg9; replace ha9 := Lib.hid ha9)))
          go_roundw
          case rel => exact ⟨k + 1, j9, a9, i9, N, by omega, by go_num, hj9, HQ.out, HO.tail, ha9.out.trans HAC.out⟩
          case measure => simp [intOf] <;> omega
    · obtain rfl : k = ys.length := by omega
      have HQ := Lib.hid (show R = -1 by rw [HR.out, show ys.length = (ys.map (·.x)).length by simp]; exact checkH_end _ _ _ _)
      clear HR
      go_wp2_with fail
      go_ret
      exact ⟨by rw [HQ.out]; rfl, HO.grown⟩
end Go.Proofs.YtibabfedpdoofaaGreatDoor
namespace Go.Own
open Go.RowKit

theorem fold_mid : ∀ (l : List Value) (i off : Nat) (z : List Value), off + i + l.length ≤ z.length →
    (l.zipIdx i).foldl (fun (cs : Array Value) (p : Value × Nat) => cs.setIfInBounds (off + p.2) p.1) z.toArray = (z.take (off + i) ++ l ++ z.drop (off + i + l.length)).toArray
  | [], i, off, z, h => by simp
  | x :: l, i, off, z, h => by
    simp only [List.length_cons] at h
    rw [List.zipIdx_cons, List.foldl_cons]
    have e : (z.toArray.setIfInBounds (off + i) x) = (z.set (off + i) x).toArray := by simp
    rw [e, fold_mid l (i + 1) off (z.set (off + i) x) (by simp; omega)]
    congr 1
    rw [← Nat.add_assoc, List.take_succ_eq_append_getElem (by simp; omega), List.take_set_of_le (Nat.le_refl _), List.drop_set_of_lt (by omega)]
    simp only [List.getElem_set_self, List.append_assoc, List.singleton_append, List.length_cons]
    rw [show off + i + 1 + l.length = off + i + (l.length + 1) by omega]
def partsOf : List (List Value) → Nat → List (Nat × Value)
  | [], _ => []
  | l :: ls, i => (i, .agg l.toArray) :: partsOf ls (i + 1)
theorem fill_many {k : Nat} : ∀ (ls : List (List Value)) (i : Nat) (pre suf : List Value), pre.length = i * k → suf.length = ls.length * k → (∀ l ∈ ls, l.length = k) →
    Instr.fill (fun i => some (i * k, k)) (pre ++ suf).toArray (partsOf ls i) = some (pre ++ ls.flatten).toArray
  | [], i, pre, suf, h1, h2, _ => by
    have : suf = [] := List.length_eq_zero_iff.1 (by simpa using h2)
    subst this
    simp [partsOf, Instr.fill]
  | l :: ls, i, pre, suf, h1, h2, h3 => by
    have hl := h3 l List.mem_cons_self
    have h2' : suf.length = ls.length * k + k := by rw [h2, List.length_cons, Nat.succ_mul]
    unfold partsOf Instr.fill
    have hsz : (Value.agg l.toArray).cells = l.toArray := rfl
    simp only [hsz]
    have hc : ¬ (l.toArray.size ≠ k || decide (i * k + l.toArray.size > (pre ++ suf).toArray.size)) = true := by
      simp [hl]
      omega
    rw [if_neg (by simpa using hc), ← Array.foldl_toList, Array.toList_zipIdx]
    have hf := fold_mid l 0 (i * k) (pre ++ suf) (by simp; omega)
    simp only [Nat.add_zero] at hf
    rw [hf, List.take_append_of_le_length (by omega), List.take_of_length_le (by omega), List.drop_append, List.drop_eq_nil_of_le (by omega), List.nil_append]
    have h4 := fill_many ls (i + 1) (pre ++ l) (suf.drop (i * k + l.length - pre.length)) (by rw [List.length_append, h1, hl, Nat.succ_mul]) (by rw [List.length_drop]; omega) (fun x hx => h3 x (List.mem_cons_of_mem _ hx))
    rw [h4]
    simp
section
variable {P : Program} {ops : Array Oper} {rest : List Oper} {o : Oper} {a : Act} {W w : World} {Q : Exit → Act → World → Prop} {L : List Ent}
theorem wpList_litN {t e k n by' : Nat} {parts : Array (Nat × Operand)} (ls : List (List Value)) (hO : Own W w L) (ho : o.op = .buildSlice t n parts) (ht : IsSlice P t e) (hsz : IsElem P e k by') (hp0 : parts.toList.map (fun p => (p.1, a.eval p.2)) = partsOf ls 0) (hn : ls.length = n)
    (hl0 : (ls.all fun l => Nat.beq l.length k) = true) (hk0 : Nat.ble (n * k) 1000 = true) (hn1 : Nat.ble 1 n = true) (hw : Region.wanted o (yielded ops a.tmps) = true) (h : ∀ b w', Own W w' (box b (.cells ls.flatten.toArray e) :: L) → wpList P ops Q rest (a.put o.dst (.slice (some ⟨b, 0, none⟩) n n)) w') : wpList P ops Q (o :: rest) a w := by
  have h1 := hsz.out
  have hpos := hsz.pos
  have hp : (parts.map fun (i, x) => (i, a.eval x)).toList = partsOf ls 0 := by rw [Array.toList_map]; exact hp0
  have hn0 : 0 < n := Nat.le_of_ble_eq_true hn1
  have hk : n * k ≤ 1000 := Nat.le_of_ble_eq_true hk0
  have hl : ∀ l ∈ ls, l.length = k := fun l hl => Nat.eq_of_beq_eq_true (List.all_eq_true.1 hl0 l hl)
  have hnk : 0 < n * k := Nat.mul_pos hn0 hpos
  have hrun : (execOp a.eval o).run P w = .ok (.value (.slice (some ⟨w.heap.size, 0, none⟩) n n)) (w.alloc (.cells ls.flatten.toArray e)) := by
    cases hi : P.info? e with
    | none => simp [hi] at h1
    | some i =>
      cases hzz : i.zero with
      | none => simp [hi, hzz] at h1
      | some zv =>
        simp only [hi, hzz, Option.bind_some, Option.map_some, Option.some.injEq, Prod.mk.injEq] at h1
        obtain ⟨h2, h3, _⟩ := h1
        have hlt : ¬ (16777216 < n * k) := by omega
        have h0 : ¬ (n * k = 0) := by omega
        have h00 : ¬ (n = 0) := by omega
        have h01 : ¬ (k = 0) := by omega
        have hf : Instr.fill (fun i => some (i * k, k)) (Array.map (fun x => zv.cells[x % zv.cells.size]!) (Array.range (n * k))) (parts.map fun (i, x) => (i, a.eval x)).toList = some ls.flatten.toArray := by
          rw [hp]
          have := fill_many (k := k) ls 0 [] (Array.map (fun x => zv.cells[x % zv.cells.size]!) (Array.range (n * k))).toList (by simp) (by simp [hn]) hl
          rwa [List.nil_append, List.nil_append, Array.toArray_toList] at this
        unfold execOp
        simp only [ho, Instr.buildSlice]
        simp [underlying, ht.out, sizeOf, typeInfo, hi, h3, h0, zeroValue, hzz, hlt, newRow]
        simp at hf
        simp [hf]
  exact wpList_value hw hrun (h _ _ (hO.alloc _))
end
end Go.Own
namespace Go.Own
theorem isL_boxH {w : World} {t k n b : Nat} {cs : Array Value} {A : List (List Value)} (hF : w.heap[b]? = some (.cells cs t)) (hA : ∀ l ∈ A, l.length = k) (hn : A.length = n) (hc : A.flatten.toArray = cs) (hm : n ≤ maxLen) : IsL w k (.slice (some ⟨b, 0, none⟩) n n) A := by
  have h : w.ownsRow 0 t k (.slice (some ⟨b, 0, none⟩) n n) A.length A.flatten := by
    refine ⟨flatL_len hA, .inr ⟨b, n, cs, by rw [hn], Nat.zero_le _, hF, by omega, hm, ?_, ?_⟩⟩
    · rw [← hc]; simp [flatL_len hA, hn]
    · rw [← hc]; rw [List.take_of_length_le]; simp [flatL_len hA]
  exact isL_of_owns hA h
end Go.Own
namespace Go.Proofs.YtibabfedpdoofaaGreatDoor
open Go.RowKit Go.Own Go.Maps

def jO : OrdS := ⟨1, [97], [120], 1, 500⟩
def jE : EntI := ⟨{ zeroE 1 with id := 1, ref := [97], sku := [120], qty := 1, amt := 500 }, .slice none 0 0⟩
def jP : HisI := ⟨⟨1, 0, 0, jO, 0, 1, 0, zeroO, zeroD⟩, [], none, 0, 0, 0, 0, 0, none, 0, 0⟩
def jL : HisI := ⟨⟨3, 1, 0, zeroO, 0, 0, 0, jO, beginD⟩, [], none, 0, 0, 0, 0, 0, none, 0, 0⟩
def jN : HisI := ⟨⟨3, 1, 0, zeroO, 4, 0, 0, zeroO, zeroD⟩, [], none, 0, 0, 0, 0, 0, none, 0, 0⟩
theorem j1 : checkH [jE.x] [jP.x, jL.x] 0 0 = -1 := by kernel_rfl
theorem j2 : checkH [jE.x] [jN.x, jP.x] 0 0 = -1 := by kernel_rfl
theorem j3 : checkH [jE.x] [jP.x, jN.x] 0 0 = 1 := by kernel_rfl
theorem jP_ok : LineOk jP := ⟨rfl, rfl, by unfold maxLen; decide, by unfold maxLen; decide, by unfold maxLen; decide⟩
theorem jL_ok : LineOk jL := ⟨rfl, rfl, by unfold maxLen; decide, by unfold maxLen; decide, by unfold maxLen; decide⟩
theorem jN_ok : LineOk jN := ⟨rfl, rfl, by unfold maxLen; decide, by unfold maxLen; decide, by unfold maxLen; decide⟩
theorem check_two {W w : World} {L : List Ent} {b6 b2 : Nat} {R : Int} (HO : Own W w L) (p q : HisI) (hp : LineOk p) (hq : LineOk q) (m1 : box b6 (.cells [hisC p, hisC q].flatten.toArray 123) ∈ L) (m2 : box b2 (.cells [entC jE].flatten.toArray 34) ∈ L) (hL : LaidE w) (hR : checkH [jE.x] [p.x, q.x] 0 0 = R) :
    Calls Tryz.prog 62 #[.slice (some ⟨b6, 0, none⟩) 2 2, .slice (some ⟨b2, 0, none⟩) 1 1] w fun e w' => e = .returned (.int .i64 R) ∧ Below w.heap.size w w' := by
  have hY : IsLines w (.slice (some ⟨b6, 0, none⟩) 2 2) [p, q] := ⟨isL_boxH (HO.has _ m1) (hisC_len [p, q]) rfl rfl (by unfold maxLen; decide), fun y hy => by
    simp only [List.mem_cons, List.not_mem_nil, or_false] at hy
    rcases hy with rfl | rfl
    · exact hp
    · exact hq⟩
  have hE : IsEnts w (.slice (some ⟨b2, 0, none⟩) 1 1) [jE] := ⟨isL_boxH (HO.has _ m2) (fun l hl => by
    obtain ⟨y, _, rfl⟩ := List.mem_map.1 hl
    rfl) rfl rfl (by unfold maxLen; decide), fun e he => by
    obtain rfl := List.mem_singleton.1 he
    exact ⟨.none _ _ (fun _ => rfl), by unfold maxLen; decide, by unfold maxLen; decide, rfl⟩⟩
  have h := check_any hY hE (by simp) hL
  rw [show checkH ([jE].map (·.x)) ([p, q].map (·.x)) 0 0 = R from hR] at h
  exact h

set_option maxHeartbeats 16000000 in
set_option maxRecDepth 100000 in
theorem answered_any (W : World) (hL : LaidE W) : Calls Tryz.prog 58 #[] W fun e w' => e = .returned (.bool true) ∧ Below W.heap.size W w' := by
  have HO := Own.start W
  have BG : ∀ w, Calls Tryz.prog 120 #[.agg #[.int .i64 1, .string ⟨#[97]⟩, .string ⟨#[120]⟩, .int .i64 1, .int .i64 500]] w fun e w' => e = .returned (.agg #[.int .i64 1, .string ⟨#[97]⟩, .string ⟨#[120]⟩, .int .i64 1, .int .i64 500, .int .i64 1, .int .i64 0, .int .i64 0, .int .i64 0, .int .i64 0, .int .i64 0, .bool false]) ∧ Below w.heap.size w w' := fun w => begin_any jO w
  have C1 := fun (w : World) (L : List Ent) (b6 b2 : Nat) (h : Own W w L) (m1 : box b6 (.cells [[Value.int .i64 1, .int .i64 1, .string ⟨#[97]⟩, .string ⟨#[120]⟩, .int .i64 1, .int .i64 500, .int .i64 0, .int .i64 0, .string ⟨#[]⟩, .slice none 0 0, .int .i64 0, .int .i64 0, .int .i64 0, .int .i64 0, .int .i64 1, .int .i64 0, .int .i64 0, .string ⟨#[]⟩, .string ⟨#[]⟩, .int .i64 0, .int .i64 0, .int .i64 0, .int .i64 0, .int .i64 0, .int .i64 0, .int .i64 0, .int .i64 0, .bool false, .slice none 0 0], [Value.int .i64 3, .int .i64 0, .string ⟨#[]⟩, .string ⟨#[]⟩, .int .i64 0, .int .i64 0, .int .i64 1, .int .i64 0, .string ⟨#[]⟩, .slice none 0 0, .int .i64 0, .int .i64 0, .int .i64 0, .int .i64 0, .int .i64 0, .int .i64 0, .int .i64 1, .string ⟨#[97]⟩, .string ⟨#[120]⟩, .int .i64 1, .int .i64 500, .int .i64 1, .int .i64 0, .int .i64 0, .int .i64 0, .int .i64 0, .int .i64 0, .bool false, .slice none 0 0]].flatten.toArray 123) ∈ L) (m2 : box b2 (.cells [[Value.int .i64 1, .int .i64 1, .string ⟨#[97]⟩, .string ⟨#[120]⟩, .int .i64 1, .int .i64 500, .int .i64 0, .int .i64 0, .int .i64 0, .int .i64 0, .int .i64 0, .slice none 0 0]].flatten.toArray 34) ∈ L) => check_two h jP jL jP_ok jL_ok m1 m2 (hL.below h.grown) j1
  have C2 := fun (w : World) (L : List Ent) (b6 b2 : Nat) (h : Own W w L) (m1 : box b6 (.cells [[Value.int .i64 3, .int .i64 0, .string ⟨#[]⟩, .string ⟨#[]⟩, .int .i64 0, .int .i64 0, .int .i64 1, .int .i64 0, .string ⟨#[]⟩, .slice none 0 0, .int .i64 4, .int .i64 0, .int .i64 0, .int .i64 0, .int .i64 0, .int .i64 0, .int .i64 0, .string ⟨#[]⟩, .string ⟨#[]⟩, .int .i64 0, .int .i64 0, .int .i64 0, .int .i64 0, .int .i64 0, .int .i64 0, .int .i64 0, .int .i64 0, .bool false, .slice none 0 0], [Value.int .i64 1, .int .i64 1, .string ⟨#[97]⟩, .string ⟨#[120]⟩, .int .i64 1, .int .i64 500, .int .i64 0, .int .i64 0, .string ⟨#[]⟩, .slice none 0 0, .int .i64 0, .int .i64 0, .int .i64 0, .int .i64 0, .int .i64 1, .int .i64 0, .int .i64 0, .string ⟨#[]⟩, .string ⟨#[]⟩, .int .i64 0, .int .i64 0, .int .i64 0, .int .i64 0, .int .i64 0, .int .i64 0, .int .i64 0, .int .i64 0, .bool false, .slice none 0 0]].flatten.toArray 123) ∈ L) (m2 : box b2 (.cells [[Value.int .i64 1, .int .i64 1, .string ⟨#[97]⟩, .string ⟨#[120]⟩, .int .i64 1, .int .i64 500, .int .i64 0, .int .i64 0, .int .i64 0, .int .i64 0, .int .i64 0, .slice none 0 0]].flatten.toArray 34) ∈ L) => check_two h jN jP jN_ok jP_ok m1 m2 (hL.below h.grown) j2
  have C3 := fun (w : World) (L : List Ent) (b6 b2 : Nat) (h : Own W w L) (m1 : box b6 (.cells [[Value.int .i64 1, .int .i64 1, .string ⟨#[97]⟩, .string ⟨#[120]⟩, .int .i64 1, .int .i64 500, .int .i64 0, .int .i64 0, .string ⟨#[]⟩, .slice none 0 0, .int .i64 0, .int .i64 0, .int .i64 0, .int .i64 0, .int .i64 1, .int .i64 0, .int .i64 0, .string ⟨#[]⟩, .string ⟨#[]⟩, .int .i64 0, .int .i64 0, .int .i64 0, .int .i64 0, .int .i64 0, .int .i64 0, .int .i64 0, .int .i64 0, .bool false, .slice none 0 0], [Value.int .i64 3, .int .i64 0, .string ⟨#[]⟩, .string ⟨#[]⟩, .int .i64 0, .int .i64 0, .int .i64 1, .int .i64 0, .string ⟨#[]⟩, .slice none 0 0, .int .i64 4, .int .i64 0, .int .i64 0, .int .i64 0, .int .i64 0, .int .i64 0, .int .i64 0, .string ⟨#[]⟩, .string ⟨#[]⟩, .int .i64 0, .int .i64 0, .int .i64 0, .int .i64 0, .int .i64 0, .int .i64 0, .int .i64 0, .int .i64 0, .bool false, .slice none 0 0]].flatten.toArray 123) ∈ L) (m2 : box b2 (.cells [[Value.int .i64 1, .int .i64 1, .string ⟨#[97]⟩, .string ⟨#[120]⟩, .int .i64 1, .int .i64 500, .int .i64 0, .int .i64 0, .int .i64 0, .int .i64 0, .int .i64 0, .slice none 0 0]].flatten.toArray 34) ∈ L) => check_two h jP jN jP_ok jN_ok m1 m2 (hL.below h.grown) j3
  replace C1 := Lib.hid C1
  replace C2 := Lib.hid C2
  replace C3 := Lib.hid C3
  go_enter Tryz.func58, Tryz.ntmps58
  go_upto_region 6 with (first | (((with_reducible apply wpList_loadAll HO); exact rfl; exact rfl; (repeat (with_reducible (first | exact At.head _ | apply At.tail))); infer_instance; exact rfl; exact rfl; (simp only [Act.put, zA, zB, zC]))) | ((have _h : Own W _ (box _ _ :: box _ _ :: box _ _ :: box _ _ :: _) := HO); clear _h; (((with_reducible apply wpList_allocAgg _ HO rfl); exact rfl; infer_instance; exact rfl; clear HO; intro b5 w HO; (simp only [Act.put, zA, zB, zC])))) | ((have _h : Own W _ (box _ _ :: box _ _ :: box _ _ :: _) := HO); clear _h; (((with_reducible apply wpList_allocAgg _ HO rfl); exact rfl; infer_instance; exact rfl; clear HO; intro b4 w HO; (simp only [Act.put, zA, zB, zC])))) | ((have _h : Own W _ (box _ _ :: box _ _ :: _) := HO); clear _h; (((with_reducible apply wpList_allocAgg _ HO rfl); exact rfl; infer_instance; exact rfl; clear HO; intro b3 w HO; (simp only [Act.put, zA, zB, zC])))) | ((with_reducible apply wpList_litN ([[Value.int .i64 1, .int .i64 1, .string ⟨#[97]⟩, .string ⟨#[120]⟩, .int .i64 1, .int .i64 500, .int .i64 0, .int .i64 0, .int .i64 0, .int .i64 0, .int .i64 0, .slice none 0 0]]) HO); exact rfl; infer_instance; infer_instance; exact rfl; exact rfl; exact rfl; exact rfl; exact rfl; exact rfl; clear HO; intro b2 w HO; (simp only [Act.put, zA, zB, zC])) | (((with_reducible apply wpList_allocAgg _ HO rfl); exact rfl; infer_instance; exact rfl; clear HO; intro b1 w HO; (simp only [Act.put, zA, zB, zC]))) | ((with_reducible apply wpList_storeAll HO); exact rfl; exact rfl; exact rfl; (repeat (with_reducible (exact At.head _))); infer_instance; exact rfl; exact rfl; exact rfl; exact rfl; clear HO; intro w HO; (simp only [Act.put])) | (go_at_call 120; go_must ((with_reducible refine (BG _).mono ?_); rintro e w ⟨rfl, hb⟩; replace HO := HO.call hb; clear hb)))
  go_wp2_with (first | (((with_reducible apply wpList_loadAll HO); exact rfl; exact rfl; (repeat (with_reducible (first | exact At.head _ | apply At.tail))); infer_instance; exact rfl; exact rfl; (simp only [Act.put, zA, zB, zC]))) | ((with_reducible apply wpList_litN ([[Value.int .i64 1, .int .i64 1, .string ⟨#[97]⟩, .string ⟨#[120]⟩, .int .i64 1, .int .i64 500, .int .i64 0, .int .i64 0, .string ⟨#[]⟩, .slice none 0 0, .int .i64 0, .int .i64 0, .int .i64 0, .int .i64 0, .int .i64 1, .int .i64 0, .int .i64 0, .string ⟨#[]⟩, .string ⟨#[]⟩, .int .i64 0, .int .i64 0, .int .i64 0, .int .i64 0, .int .i64 0, .int .i64 0, .int .i64 0, .int .i64 0, .bool false, .slice none 0 0], [Value.int .i64 3, .int .i64 0, .string ⟨#[]⟩, .string ⟨#[]⟩, .int .i64 0, .int .i64 0, .int .i64 1, .int .i64 0, .string ⟨#[]⟩, .slice none 0 0, .int .i64 0, .int .i64 0, .int .i64 0, .int .i64 0, .int .i64 0, .int .i64 0, .int .i64 1, .string ⟨#[97]⟩, .string ⟨#[120]⟩, .int .i64 1, .int .i64 500, .int .i64 1, .int .i64 0, .int .i64 0, .int .i64 0, .int .i64 0, .int .i64 0, .bool false, .slice none 0 0]]) HO); exact rfl; infer_instance; infer_instance; exact rfl; exact rfl; exact rfl; exact rfl; exact rfl; exact rfl; clear HO; intro b6 w HO; (simp only [Act.put, zA, zB, zC])) | ((with_reducible apply wpList_litN ([[Value.int .i64 3, .int .i64 0, .string ⟨#[]⟩, .string ⟨#[]⟩, .int .i64 0, .int .i64 0, .int .i64 1, .int .i64 0, .string ⟨#[]⟩, .slice none 0 0, .int .i64 4, .int .i64 0, .int .i64 0, .int .i64 0, .int .i64 0, .int .i64 0, .int .i64 0, .string ⟨#[]⟩, .string ⟨#[]⟩, .int .i64 0, .int .i64 0, .int .i64 0, .int .i64 0, .int .i64 0, .int .i64 0, .int .i64 0, .int .i64 0, .bool false, .slice none 0 0], [Value.int .i64 1, .int .i64 1, .string ⟨#[97]⟩, .string ⟨#[120]⟩, .int .i64 1, .int .i64 500, .int .i64 0, .int .i64 0, .string ⟨#[]⟩, .slice none 0 0, .int .i64 0, .int .i64 0, .int .i64 0, .int .i64 0, .int .i64 1, .int .i64 0, .int .i64 0, .string ⟨#[]⟩, .string ⟨#[]⟩, .int .i64 0, .int .i64 0, .int .i64 0, .int .i64 0, .int .i64 0, .int .i64 0, .int .i64 0, .int .i64 0, .bool false, .slice none 0 0]]) HO); exact rfl; infer_instance; infer_instance; exact rfl; exact rfl; exact rfl; exact rfl; exact rfl; exact rfl; clear HO; intro b7 w HO; (simp only [Act.put, zA, zB, zC])) | ((with_reducible apply wpList_litN ([[Value.int .i64 1, .int .i64 1, .string ⟨#[97]⟩, .string ⟨#[120]⟩, .int .i64 1, .int .i64 500, .int .i64 0, .int .i64 0, .string ⟨#[]⟩, .slice none 0 0, .int .i64 0, .int .i64 0, .int .i64 0, .int .i64 0, .int .i64 1, .int .i64 0, .int .i64 0, .string ⟨#[]⟩, .string ⟨#[]⟩, .int .i64 0, .int .i64 0, .int .i64 0, .int .i64 0, .int .i64 0, .int .i64 0, .int .i64 0, .int .i64 0, .bool false, .slice none 0 0], [Value.int .i64 3, .int .i64 0, .string ⟨#[]⟩, .string ⟨#[]⟩, .int .i64 0, .int .i64 0, .int .i64 1, .int .i64 0, .string ⟨#[]⟩, .slice none 0 0, .int .i64 4, .int .i64 0, .int .i64 0, .int .i64 0, .int .i64 0, .int .i64 0, .int .i64 0, .string ⟨#[]⟩, .string ⟨#[]⟩, .int .i64 0, .int .i64 0, .int .i64 0, .int .i64 0, .int .i64 0, .int .i64 0, .int .i64 0, .int .i64 0, .bool false, .slice none 0 0]]) HO); exact rfl; infer_instance; infer_instance; exact rfl; exact rfl; exact rfl; exact rfl; exact rfl; exact rfl; clear HO; intro b8 w HO; (simp only [Act.put, zA, zB, zC])) | (go_at_call 62; first | ((with_reducible refine (C3.out _ _ b8 b2 HO (by simp) (by simp)).mono ?_); (rintro e w ⟨rfl, hb⟩; replace HO := HO.call hb; clear hb)) | ((with_reducible refine (C2.out _ _ b7 b2 HO (by simp) (by simp)).mono ?_); (rintro e w ⟨rfl, hb⟩; replace HO := HO.call hb; clear hb)) | ((with_reducible refine (C1.out _ _ b6 b2 HO (by simp) (by simp)).mono ?_); (rintro e w ⟨rfl, hb⟩; replace HO := HO.call hb; clear hb))))
  go_ret
  exact ⟨rfl, HO.grown⟩
end Go.Proofs.YtibabfedpdoofaaGreatDoor
namespace Go.Proofs.YtibabfedpdoofaaGreatDoor
open Go.RowKit Go.Own Go.Maps

end Go.Proofs.YtibabfedpdoofaaGreatDoor
namespace Go.Proofs.YtibabfedpdoofaaGreatDoor
open Go.RowKit Go.Own Go.Maps

end Go.Proofs.YtibabfedpdoofaaGreatDoor
namespace Go.Proofs.YtibabfedpdoofaaGreatDoor
open Go.RowKit Go.Own Go.Maps

/-- The document's core in a world. -/
structure RcAt (w : World) (x : RcA) (S : CoS) (A : InS) : Prop where
  box : w.heap[x.r]? = some (.cells (rcC x A).toArray 152)
  s : RcS w x S A
theorem RcS.below {w w' : World} {x : RcA} {S : CoS} {A : InS} (h : RcS w x S A) (hb : Below w.heap.size w w') : RcS w' x S A := ⟨h.l.below hb h.l.lt, h.b.below hb h.b.lt, h.i0.below hb h.i0.lt, h.i1.below hb h.i1.lt, h.i2.below hb h.i2.lt⟩
theorem RcAt.below {w w' : World} {x : RcA} {S : CoS} {A : InS} (h : RcAt w x S A) (hb : Below w.heap.size w w') : RcAt w' x S A := ⟨by rw [hb.block _ (old_lt h.box)]; exact h.box, h.s.below hb⟩
theorem RcIn.full {W w : World} {G L : List Ent} {x : RcA} {S : CoS} {A : InS} (h : RcIn W G x S A) (hO : Own W w L) (hm : ∀ e ∈ G, e ∈ L) (hb : rcB x A ∈ L) : RcAt w x S A := ⟨hO.has _ hb, h.at hO hm⟩

set_option maxHeartbeats 16000000 in
set_option maxRecDepth 100000 in
theorem rcBal_any {W : World} {x : RcA} {S : CoS} {A : InS} (h : RcAt W x S A) (hs : ∀ p ∈ S.P, smallOk p) (hlen : S.P.length ≤ 100000) (n o : Int) : Calls Tryz.prog 95 #[.pointer (some ⟨x.r, 0, none⟩), .int .i64 n, .int .i64 o] W fun e w' => e = .returned (.int .i64 (bal S.P n o)) ∧ Below W.heap.size W w' := by
  have HO := Own.start W
  obtain ⟨p, c, hv, hmx⟩ := h.s.b.slice
  rw [List.length_map] at hv hmx
  have HR := Lib.hid h.s.b
  have h1 := old_cell h.box 1 rfl
  have hlt := old_lt h.box
  have hmx' : (S.P.length : Int) ≤ 100000 := by omega
  rw [hv] at h1
  generalize ha : x.u = av at *
  subst hv
  clear h ha
  have HB := Lib.hid (fun j => bal_small (b := 2199023255552) (by decide) n o (l := S.P.take j) (fun p hp => hs p (List.mem_of_mem_take hp)))
  have HT := Lib.hid (fun (j : Nat) (hj : j < S.P.length) => show bal (S.P.take (j + 1)) n o = bal (S.P.take j) n o + delta S.P[j] n o from by rw [List.take_succ_eq_append_getElem hj, bal_snoc])
  have HM := Lib.hid (fun (j : Nat) (hj : j < S.P.length) => hs S.P[j] (List.getElem_mem hj))
  generalize hg : bal S.P n o = g0
  replace hg := Lib.hid hg
  clear hs
  go_enter Tryz.func95, Tryz.ntmps95
  go_wp2_with (fail)
  go_loopw [7, 8] (fun sv iv wr => ∃ j : Nat, j ≤ S.P.length ∧ iv = .int .i64 (j : Int) ∧ sv = .int .i64 (bal (S.P.take j) n o) ∧ Own W wr []) (fun _ iv _ => S.P.length - (intOf iv).toNat)
  case atStart => exact ⟨0, by omega, rfl, rfl, HO⟩
  case round =>
    clear HO
    obtain ⟨j, hj, rfl, rfl, HO⟩ := hrel
    by_cases hjl : j < S.P.length
    · have hjI : (j : Int) < (S.P.length : Int) := by omega
      obtain ⟨b, rfl, hst⟩ := oldAt HR.out rfl hjl
      have hbj := HB.out j
      have htl : (S.P.take j).length ≤ j := by simp; omega
      have htj := HT.out j hjl
      have hmj := HM.out j hjl
      have hm1 := mayPst_iff.1 hmj.1
      have hm2 := hmj.2
      have hpa := hm1.2.2.2.2.2.2.2
      clear HB HT HM hmj
      generalize S.P[j] = y at *
      obtain ⟨pi, po, pd, pc, pa⟩ := y
      unfold pstC at hst
      have s1 := fun w' (h1 : Own W w' []) => hst w' h1.grown 1 _ rfl
      have s2 := fun w' (h1 : Own W w' []) => hst w' h1.grown 2 _ rfl
      have s3 := fun w' (h1 : Own W w' []) => hst w' h1.grown 3 _ rfl
      have s4 := fun w' (h1 : Own W w' []) => hst w' h1.grown 4 _ rfl
      rw [show delta ⟨pi, po, pd, pc, pa⟩ n o = if o ≠ 0 ∧ po ≠ o then 0 else if pd = n then pa else if pc = n then -pa else 0 from rfl] at htj
      simp only at hm1 hm2 hpa
      replace htj := Lib.hid htj
      have hlo : -(2199023255552 * (100000 : Int)) ≤ bal (S.P.take j) n o ∧ bal (S.P.take j) n o ≤ 2199023255552 * 100000 := by omega
      clear hst hbj
      generalize bal (S.P.take j) n o = bv at *
      have hx : (o ≠ 0 ∧ po ≠ o) ∨ (o = 0 ∨ o ≠ 0 ∧ po = o) := by omega
      rcases hx with ⟨x1, x2⟩ | hx
      · have x1' : (o != 0) = true := by simpa using x1
        have x2' : (po != o) = true := by simpa using x2
        rw [if_pos ⟨x1, x2⟩] at htj
        go_wp2_with (first | ((with_reducible apply wpList_loadOld1 HO); exact rfl; exact rfl; exact hlt; exact h1; infer_instance; exact rfl; (simp only [Act.put, zA, zB, zC])) | ((with_reducible apply wpList_loadAt1 HO); exact rfl; exact rfl; exact (s1); infer_instance; exact rfl; (simp only [Act.put, zA, zB, zC])))
        go_roundw
        case rel => exact ⟨j + 1, by omega, by go_num, by rw [htj.out, Int.add_zero], HO⟩
        case measure => simp [intOf] <;> omega
      · rw [if_neg (by omega)] at htj
        by_cases d1 : pd = n
        · have d2 : ¬ pc = n := by omega
          rw [if_pos d1] at htj
          clear hm1
          rcases hx with x1 | ⟨x1, x2⟩
          · go_wp2_with (first | ((with_reducible apply wpList_loadOld1 HO); exact rfl; exact rfl; exact hlt; exact h1; infer_instance; exact rfl; (simp only [Act.put, zA, zB, zC])) | ((with_reducible apply wpList_loadAt1 HO); exact rfl; exact rfl; exact (s2); infer_instance; exact rfl; (simp only [Act.put, zA, zB, zC])) | ((with_reducible apply wpList_loadAt1 HO); exact rfl; exact rfl; exact (s3); infer_instance; exact rfl; (simp only [Act.put, zA, zB, zC])) | ((with_reducible apply wpList_loadAt1 HO); exact rfl; exact rfl; exact (s4); infer_instance; exact rfl; (simp only [Act.put, zA, zB, zC])))
            go_roundw
            case rel => exact ⟨j + 1, by omega, by go_num, by rw [htj.out] <;> first | (rw [Int.add_zero]; done) | go_num, HO⟩
            case measure => simp [intOf] <;> omega
          · have x1' : (o != 0) = true := by simpa using x1
            subst x2
            go_wp2_with (first | ((with_reducible apply wpList_loadOld1 HO); exact rfl; exact rfl; exact hlt; exact h1; infer_instance; exact rfl; (simp only [Act.put, zA, zB, zC])) | ((with_reducible apply wpList_loadAt1 HO); exact rfl; exact rfl; exact (s1); infer_instance; exact rfl; (simp only [Act.put, zA, zB, zC])) | ((with_reducible apply wpList_loadAt1 HO); exact rfl; exact rfl; exact (s2); infer_instance; exact rfl; (simp only [Act.put, zA, zB, zC])) | ((with_reducible apply wpList_loadAt1 HO); exact rfl; exact rfl; exact (s3); infer_instance; exact rfl; (simp only [Act.put, zA, zB, zC])) | ((with_reducible apply wpList_loadAt1 HO); exact rfl; exact rfl; exact (s4); infer_instance; exact rfl; (simp only [Act.put, zA, zB, zC])))
            go_roundw
            case rel => exact ⟨j + 1, by omega, by go_num, by rw [htj.out] <;> first | (rw [Int.add_zero]; done) | go_num, HO⟩
            case measure => simp [intOf] <;> omega
        · by_cases d2 : pc = n
          · rw [if_neg d1, if_pos d2] at htj
            clear hm1
            rcases hx with x1 | ⟨x1, x2⟩
            · go_wp2_with (first | ((with_reducible apply wpList_loadOld1 HO); exact rfl; exact rfl; exact hlt; exact h1; infer_instance; exact rfl; (simp only [Act.put, zA, zB, zC])) | ((with_reducible apply wpList_loadAt1 HO); exact rfl; exact rfl; exact (s2); infer_instance; exact rfl; (simp only [Act.put, zA, zB, zC])) | ((with_reducible apply wpList_loadAt1 HO); exact rfl; exact rfl; exact (s3); infer_instance; exact rfl; (simp only [Act.put, zA, zB, zC])) | ((with_reducible apply wpList_loadAt1 HO); exact rfl; exact rfl; exact (s4); infer_instance; exact rfl; (simp only [Act.put, zA, zB, zC])))
              go_roundw
              case rel => exact ⟨j + 1, by omega, by go_num, by rw [htj.out] <;> first | (rw [Int.add_zero]; done) | go_num, HO⟩
              case measure => simp [intOf] <;> omega
            · have x1' : (o != 0) = true := by simpa using x1
              subst x2
              go_wp2_with (first | ((with_reducible apply wpList_loadOld1 HO); exact rfl; exact rfl; exact hlt; exact h1; infer_instance; exact rfl; (simp only [Act.put, zA, zB, zC])) | ((with_reducible apply wpList_loadAt1 HO); exact rfl; exact rfl; exact (s1); infer_instance; exact rfl; (simp only [Act.put, zA, zB, zC])) | ((with_reducible apply wpList_loadAt1 HO); exact rfl; exact rfl; exact (s2); infer_instance; exact rfl; (simp only [Act.put, zA, zB, zC])) | ((with_reducible apply wpList_loadAt1 HO); exact rfl; exact rfl; exact (s3); infer_instance; exact rfl; (simp only [Act.put, zA, zB, zC])) | ((with_reducible apply wpList_loadAt1 HO); exact rfl; exact rfl; exact (s4); infer_instance; exact rfl; (simp only [Act.put, zA, zB, zC])))
              go_roundw
              case rel => exact ⟨j + 1, by omega, by go_num, by rw [htj.out] <;> first | (rw [Int.add_zero]; done) | go_num, HO⟩
              case measure => simp [intOf] <;> omega
          · rw [if_neg d1, if_neg d2] at htj
            clear hm1
            rcases hx with x1 | ⟨x1, x2⟩
            · go_wp2_with (first | ((with_reducible apply wpList_loadOld1 HO); exact rfl; exact rfl; exact hlt; exact h1; infer_instance; exact rfl; (simp only [Act.put, zA, zB, zC])) | ((with_reducible apply wpList_loadAt1 HO); exact rfl; exact rfl; exact (s2); infer_instance; exact rfl; (simp only [Act.put, zA, zB, zC])) | ((with_reducible apply wpList_loadAt1 HO); exact rfl; exact rfl; exact (s3); infer_instance; exact rfl; (simp only [Act.put, zA, zB, zC])))
              go_roundw
              case rel => exact ⟨j + 1, by omega, by go_num, by rw [htj.out] <;> first | (rw [Int.add_zero]; done) | go_num, HO⟩
              case measure => simp [intOf] <;> omega
            · have x1' : (o != 0) = true := by simpa using x1
              subst x2
              go_wp2_with (first | ((with_reducible apply wpList_loadOld1 HO); exact rfl; exact rfl; exact hlt; exact h1; infer_instance; exact rfl; (simp only [Act.put, zA, zB, zC])) | ((with_reducible apply wpList_loadAt1 HO); exact rfl; exact rfl; exact (s1); infer_instance; exact rfl; (simp only [Act.put, zA, zB, zC])) | ((with_reducible apply wpList_loadAt1 HO); exact rfl; exact rfl; exact (s2); infer_instance; exact rfl; (simp only [Act.put, zA, zB, zC])) | ((with_reducible apply wpList_loadAt1 HO); exact rfl; exact rfl; exact (s3); infer_instance; exact rfl; (simp only [Act.put, zA, zB, zC])))
              go_roundw
              case rel => exact ⟨j + 1, by omega, by go_num, by rw [htj.out] <;> first | (rw [Int.add_zero]; done) | go_num, HO⟩
              case measure => simp [intOf] <;> omega
    · obtain rfl : j = S.P.length := by omega
      rw [List.take_length]
      rw [hg.out]
      go_wp2_with (((with_reducible apply wpList_loadOld1 HO); exact rfl; exact rfl; exact hlt; exact h1; infer_instance; exact rfl; (simp only [Act.put, zA, zB, zC])))
      go_ret
      exact ⟨rfl, HO.grown⟩
end Go.Proofs.YtibabfedpdoofaaGreatDoor
namespace Go.Proofs.YtibabfedpdoofaaGreatDoor
open Go.RowKit Go.Own Go.Maps

def keysOk (K : List (Int × Int)) : Prop := ∀ k ∈ K, keyOk k.1 k.2 = true
theorem waitsOf_deed (s : D6) : isDeed (waitsOf s).1 = true := by
  unfold waitsOf
  (repeat' split) <;> decide
theorem keysOk.snoc {K : List (Int × Int)} (h : keysOk K) {o d : Int} (ho : keyOk o d = true) : keysOk (K ++ [(o, d)]) := fun k hk => by
  rcases List.mem_append.1 hk with hk | hk
  · exact h k hk
  · obtain rfl := List.mem_singleton.1 hk
    exact ho

set_option maxHeartbeats 8000000 in
set_option maxRecDepth 100000 in
theorem rcAsks_any {W : World} {x : RcA} {S : CoS} {A : InS} (h : RcAt W x S A) (hl : S.L.length ≤ 60) : Calls Tryz.prog 186 #[.pointer (some ⟨x.r, 0, none⟩)] W fun e w' =>
    ∃ (v : Value) (K : List (Int × Int)), e = .returned v ∧ K.length ≤ 60 ∧ keysOk K ∧ Own W w' [row 29 2 v (K.map keyL)] := by
  have HO := Own.start W
  obtain ⟨p, c, hv, hmx⟩ := h.s.l.slice
  rw [List.length_map] at hv hmx
  have HR := Lib.hid h.s.l
  have h0 := old_cell h.box 0 rfl
  have hlt := old_lt h.box
  rw [hv] at h0
  generalize ha : x.v = av at *
  subst hv
  clear h ha
  replace HO := HO.nil 29 2
  go_enter Tryz.func186, Tryz.ntmps186
  go_wp2_with (fail)
  go_loopw [3, 4] (fun ov iv wr => ∃ (j : Nat) (K : List (Int × Int)), j ≤ S.L.length ∧ iv = .int .i64 (j : Int) ∧ K.length ≤ j ∧ keysOk K ∧ Own W wr [row 29 2 ov (K.map keyL)]) (fun _ iv _ => S.L.length - (intOf iv).toNat)
  case atStart => exact ⟨0, [], by omega, rfl, by simp, (by intro k hk; cases hk), HO⟩
  case round =>
    clear HO
    obtain ⟨j, K, hj, rfl, hK, hin, HO⟩ := hrel
    obtain ⟨⟨p8, c8, rfl⟩, -⟩ := HO.rowForm (.head _)
    simp only [List.length_map] at HO ⊢
    by_cases hjl : j < S.L.length
    · have hjI : (j : Int) < (S.L.length : Int) := by omega
      obtain ⟨b, rfl, hst⟩ := oldAt HR.out rfl hjl
      generalize S.L[j] = y at *
      obtain ⟨o, s⟩ := y
      have WT := fun w => refWaits_any o s w
      unfold sagaV at WT
      have hwi := waitsOf_deed s
      unfold sagaL at hst
      replace hst := Lib.hid hst
      generalize waitsOf s = u at *
      obtain ⟨ud, ub⟩ := u
      simp only at WT hwi
      have hKm : (K.map keyL).length + 1 ≤ 1000000 := by rw [List.length_map]; omega
      have hKn : K.length + 1 ≤ 1000000 := by omega
      have HZ := Lib.hid (hin.snoc (o := (j : Int) + 1) (d := ud) (by unfold keyOk; rw [hwi, decide_eq_true (show (1 : Int) ≤ (j : Int) + 1 by omega), decide_eq_true (show (j : Int) + 1 ≤ 60 by omega)]; rfl))
      replace hin := Lib.hid hin
      clear hwi
      cases ub with
      | false =>
        go_wp2_with (first | ((with_reducible apply wpList_loadOld1 HO); exact rfl; exact rfl; exact hlt; exact h0; infer_instance; exact rfl; (simp only [Act.put, zA, zB, zC])) | ((with_reducible apply wpList_loadAt HO); exact rfl; exact rfl; exact (fun w' h1 => hst.out w' h1.grown); infer_instance; exact rfl; exact rfl; (simp only [Act.put, zA, zB, zC])) | (go_at_call 118; go_must ((with_reducible refine (WT _).mono ?_); rintro e w ⟨rfl, hb⟩; replace HO := HO.call hb; clear hb)))
        go_roundw
        case rel => exact ⟨j + 1, K, by omega, by go_num, by omega, hin.out, HO⟩
        case measure => simp [intOf] <;> omega
      | true =>
        go_wp2_with (first | ((with_reducible apply wpList_loadOld1 HO); exact rfl; exact rfl; exact hlt; exact h0; infer_instance; exact rfl; (simp only [Act.put, zA, zB, zC])) | ((with_reducible apply wpList_loadAt HO); exact rfl; exact rfl; exact (fun w' h1 => hst.out w' h1.grown); infer_instance; exact rfl; exact rfl; (simp only [Act.put, zA, zB, zC])) | (go_at_call 118; go_must ((with_reducible refine (WT _).mono ?_); rintro e w ⟨rfl, hb⟩; replace HO := HO.call hb; clear hb)) | (((with_reducible apply wpList_lit1 HO); exact rfl; infer_instance; infer_instance; exact rfl; exact rfl; exact (by decide); exact rfl; clear HO; intro bl w HO; (simp only [Act.put, zA, zB, zC]))) | ((with_reducible apply wpList_push1 HO); exact rfl; infer_instance; infer_instance; ((simp [Act.eval]; rfl)); exact rfl; intro _; (repeat (with_reducible (exact At.head _))); exact rfl; exact rfl; (omega); decide; exact rfl; clear HO; intro v2 w HO hv2; (simp only [Act.put, zA, zB, zC])))
        go_roundw
        case rel => exact ⟨j + 1, K ++ [((j : Int) + 1, ud)], by omega, by go_num, by simp; omega, HZ.out, by rw [List.map_append]; exact HO⟩
        case measure => simp [intOf] <;> omega
    · obtain rfl : j = S.L.length := by omega
      go_wp2_with (((with_reducible apply wpList_loadOld1 HO); exact rfl; exact rfl; exact hlt; exact h0; infer_instance; exact rfl; (simp only [Act.put, zA, zB, zC])))
      go_ret
      exact ⟨_, K, rfl, by omega, hin, HO⟩
end Go.Proofs.YtibabfedpdoofaaGreatDoor
namespace Go.Proofs.YtibabfedpdoofaaGreatDoor
open Go.RowKit Go.Own

theorem run_key_neq (a b a' b' : Int) (w : World) : (binOp .neq 29 (.agg #[.int .i64 a, .int .i64 b]) (.agg #[.int .i64 a', .int .i64 b'])).run Tryz.prog w = .ok (.bool (!(decide (a = a') && decide (b = b')))) w := by
  go_simp
  (repeat' split) <;> simp_all
end Go.Proofs.YtibabfedpdoofaaGreatDoor

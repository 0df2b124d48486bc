/-
  AgainOnce, by walking the law's text; conditions: the argument lies in memory, the laid tables.
  From a walk of a law to its row: what every law shares, over any program; conditions: none.
  From a walk of a law to its row, where tables and the map of the deeds' words are laid; conditions: none.
  Entries that came in, opened; conditions: none.
  Bytes that came in as a slice, a number that came in; conditions: none.
-/
import Derived.Deep.CutBlock
import Derived.Test.YtibabfedpdoofaaDoorRows
import Derived.ProofKit
import Derived.OpenShut
import Derived.Deep.DeepHandedRow
import Derived.Lib.LaidTab
import Derived.Test.YtibabfedpdoofaaDoorTie
import Derived.Test.YtibabfedpdoofaaDoorCards
import Derived.SevenTiedAt
import Derived.WideKeyElems2
import Derived.Deep.Slices
import Derived.Test.YtibabfedpdoofaaDoorPt1
import Derived.Test.YtibabfedpdoofaaDoorPt9
import Derived.Test.YtibabfedpdoofaaDoorPt11
import Derived.Test.YtibabfedpdoofaaDoorPt14
namespace Go.Proofs.YtibabfedpdoofaaDoor
open Go.RowKit Go.Own Go.Maps

def tryC (n : Nat) : List Value := [.int .u8 (n : Int)]
def ordB0 (b : Nat) (o : OrdS) : Ent := box b (.cells #[.int .i64 o.id, .string ⟨o.ref.toArray⟩, .string ⟨o.sku.toArray⟩, .int .i64 o.qty, .int .i64 o.amt] 33)
theorem once_perm (Z : Ent) (C I : List Ent) : (Z :: (C ++ I)).Perm (C ++ (I ++ [Z])) := by
  have h := List.perm_append_comm (l₁ := [Z]) (l₂ := C ++ I)
  simpa [List.append_assoc] using h
/-- An entry of no rows comes to a core of one's own. -/
theorem once_apply {W w : World} {Z : Ent} {a : CoA} {S : CoS} (x : EntS) (h : Own W w (Z :: (coPs a S inNil zeroI ++ inPs inNil zeroI))) (hk : x.k ≠ 4) (hr : x.rs = []) (h1 : x.ref.length ≤ 100) (h2 : x.sku.length ≤ 100) (ho : inI x.o = true) (hok : CoOk S) (hlen : S.P.length ≤ 99000) (hL : LaidE W) :
    Calls Tryd.prog 10 #[.pointer (some ⟨a.c, 0, none⟩), .agg #[.int .i64 (x).k, .int .i64 (x).id, .string ⟨(x).ref.toArray⟩, .string ⟨(x).sku.toArray⟩, .int .i64 (x).qty, .int .i64 (x).amt, .int .i64 (x).o, .int .i64 (x).d, .int .i64 (x).c, .int .i64 (x).p, .int .i64 (x).q, (.slice none 0 0)]] w fun e w' => e = .returned (.int .i64 (applyE S zeroI x)) ∧ ∃ u' v', Own W w' (Z :: (coPs { a with u := u', v := v' } (applyS S zeroI x) inNil zeroI ++ inPs inNil zeroI)) := by
  have hnil : ∀ w' : World, IsRows w' (.slice none 0 0) [] := fun w' => .none _ _ (fun _ => rfl)
  refine (coApply_any (v := .slice none 0 0) x (h.perm (once_perm _ _ _)) ⟨by rw [hr]; exact .old (hnil W) _, by unfold maxLen; omega, by unfold maxLen; omega, ho⟩ zeroI_ok hok hlen hL).mono fun e w' h9 => ?_
  obtain ⟨rfl, u', v', i', hi, h9⟩ := h9
  rw [hi hk, show applyI zeroI x = zeroI by unfold applyI; rw [if_neg (fun hh => hk hh.1)]] at h9
  exact ⟨rfl, u', v', h9.perm (once_perm _ _ _).symm⟩

theorem once_at (L : List (OrdS × D6)) (x : OrdS × D6) : ordAt (L ++ [x]) ((L.length : Int) + 1) = some x := by
  rw [ordAt_yes (j := L.length) rfl (by simp)]
  simp
theorem once_set (L : List (OrdS × D6)) (x y : OrdS × D6) : sagAt (L ++ [x]) ((L.length : Int) + 1) y = L ++ [y] := by
  unfold sagAt
  rw [show ((L.length : Int) + 1 - 1).toNat = L.length by omega]
  simp
def placeX (o : OrdS) : EntS := ⟨1, o.id, o.ref, o.sku, o.qty, o.amt, 0, 0, 0, 0, 0, []⟩
def stopX (n : Int) : EntS := ⟨2, 0, [], [], 0, 0, n, 0, 0, 0, 0, []⟩
def replyX (n d c : Int) : EntS := ⟨3, 0, [], [], 0, 0, n, d, c, 0, 0, []⟩
theorem once_place {L : List (OrdS × D6)} {P : List Pst} (h : IsOnce L) (hl : L.length < 9) : applyE ⟨L, P⟩ zeroI (placeX (ordK L.length)) = 0 ∧ applyS ⟨L, P⟩ zeroI (placeX (ordK L.length)) = ⟨L ++ [(ordK L.length, beginD)], P⟩ := by
  have hp := h.place hl
  constructor
  · unfold applyE
    exact (if_pos rfl).trans hp
  · unfold applyS
    refine (if_pos rfl).trans ?_
    have : placeL L (ordK L.length) = L ++ [(ordK L.length, beginD)] := by unfold placeL; rw [if_pos hp]
    show (⟨placeL L (ordK L.length), P⟩ : CoS) = _
    rw [this]
theorem once_stop {L : List (OrdS × D6)} {P : List Pst} (o : OrdS) (d : D6) : (∃ t, stopOf d = some t ∧ applyE ⟨L ++ [(o, d)], P⟩ zeroI (stopX ((L.length : Int) + 1)) = 0 ∧ applyS ⟨L ++ [(o, d)], P⟩ zeroI (stopX ((L.length : Int) + 1)) = ⟨L ++ [(o, t)], P⟩) ∨
    (applyE ⟨L ++ [(o, d)], P⟩ zeroI (stopX ((L.length : Int) + 1)) = 92 ∧ applyS ⟨L ++ [(o, d)], P⟩ zeroI (stopX ((L.length : Int) + 1)) = ⟨L ++ [(o, d)], P⟩) := by
  have e1 : applyE ⟨L ++ [(o, d)], P⟩ zeroI (stopX ((L.length : Int) + 1)) = stopE (L ++ [(o, d)]) ((L.length : Int) + 1) := by unfold applyE; exact (if_neg (by show ¬ ((2 : Int) = 1); decide)).trans (if_pos rfl)
  have e2 : applyS ⟨L ++ [(o, d)], P⟩ zeroI (stopX ((L.length : Int) + 1)) = ⟨stopL (L ++ [(o, d)]) ((L.length : Int) + 1), P⟩ := by unfold applyS; exact (if_neg (by show ¬ ((2 : Int) = 1); decide)).trans (if_pos rfl)
  rw [e1, e2]
  unfold stopE stopL
  rw [once_at]
  simp only
  cases stopOf d with
  | none => exact .inr ⟨rfl, rfl⟩
  | some t => exact .inl ⟨t, rfl, rfl, by simp only; rw [once_set]⟩
theorem once_reply {L : List (OrdS × D6)} {P : List Pst} (o : OrdS) {d t : D6} {k c : Int} (h : replyOf d k c = some t) : applyE ⟨L ++ [(o, d)], P⟩ zeroI (replyX ((L.length : Int) + 1) k c) = 0 ∧ ∃ P', applyS ⟨L ++ [(o, d)], P⟩ zeroI (replyX ((L.length : Int) + 1) k c) = ⟨L ++ [(o, t)], P'⟩ := by
  constructor
  · show (if (3 : Int) = 1 then _ else if (3 : Int) = 2 then _ else if (3 : Int) = 3 then replyE (L ++ [(o, d)]) ((L.length : Int) + 1) k c else _) = 0
    rw [if_neg (by decide), if_neg (by decide), if_pos rfl]
    unfold replyE
    rw [once_at]
    simp only
    rw [h]
  · refine ⟨replyP P ((L.length : Int) + 1) k (netS o t - netS o d), ?_⟩
    show (if (3 : Int) = 1 then _ else if (3 : Int) = 2 then _ else if (3 : Int) = 3 then replyS ⟨L ++ [(o, d)], P⟩ ((L.length : Int) + 1) k c else _) = _
    rw [if_neg (by decide), if_neg (by decide), if_pos rfl]
    unfold replyS
    simp only
    rw [once_at]
    simp only
    rw [h]
    simp only
    rw [once_set]
theorem once_stepR {W w : World} {Z : Ent} {a : CoA} {L : List (OrdS × D6)} {o : OrdS} {d t : D6} {P : List Pst} {k c : Int} (h : Own W w (Z :: (coPs a ⟨L ++ [(o, d)], P⟩ inNil zeroI ++ inPs inNil zeroI))) (hok : CoOk ⟨L ++ [(o, d)], P⟩) (hP : P.length ≤ 90000) (hr : replyOf d k c = some t) (hL : LaidE W) :
    Calls Tryd.prog 10 #[.pointer (some ⟨a.c, 0, none⟩), .agg #[.int .i64 3, .int .i64 0, .string ⟨#[]⟩, .string ⟨#[]⟩, .int .i64 0, .int .i64 0, .int .i64 ((L.length : Int) + 1), .int .i64 k, .int .i64 c, .int .i64 0, .int .i64 0, .slice none 0 0]] w fun e w' => e = .returned (.int .i64 0) ∧ ∃ u' v' P', Bk P' ∧ P'.length ≤ P.length + 60 ∧ Own W w' (Z :: (coPs { a with u := u', v := v' } ⟨L ++ [(o, t)], P'⟩ inNil zeroI ++ inPs inNil zeroI)) := by
  obtain ⟨e1, P', e2⟩ := once_reply (P := P) o hr
  have h3 := applyS_ok (A := zeroI) hok (replyX ((L.length : Int) + 1) k c)
  rw [e2] at h3
  have hl := hok.len
  simp only [List.length_append, List.length_cons, List.length_nil] at hl
  refine (once_apply (replyX ((L.length : Int) + 1) k c) h (by show (3 : Int) ≠ 4; decide) rfl (by show ([] : List UInt8).length ≤ 100; decide) (by show ([] : List UInt8).length ≤ 100; decide) (show inI ((L.length : Int) + 1) = true from inI_iff.2 (by omega)) hok (by show P.length ≤ 99000; omega) hL).mono fun e w' h9 => ?_
  rw [e1, e2] at h9
  obtain ⟨rfl, u', v', h9⟩ := h9
  exact ⟨rfl, u', v', P', h3.1.bk, h3.2, h9⟩
theorem once_stepS {W w : World} {Z : Ent} {a : CoA} {L : List (OrdS × D6)} {o : OrdS} {d : D6} {P : List Pst} (h : Own W w (Z :: (coPs a ⟨L ++ [(o, d)], P⟩ inNil zeroI ++ inPs inNil zeroI))) (hok : CoOk ⟨L ++ [(o, d)], P⟩) (hP : P.length ≤ 90000) (hL : LaidE W) :
    Calls Tryd.prog 10 #[.pointer (some ⟨a.c, 0, none⟩), .agg #[.int .i64 2, .int .i64 0, .string ⟨#[]⟩, .string ⟨#[]⟩, .int .i64 0, .int .i64 0, .int .i64 ((L.length : Int) + 1), .int .i64 0, .int .i64 0, .int .i64 0, .int .i64 0, .slice none 0 0]] w fun e w' => ∃ (x : Int) (t : D6), e = .returned (.int .i64 x) ∧ (x = 0 ∧ stopOf d = some t ∨ x = 92 ∧ d = t) ∧ ∃ u' v', Own W w' (Z :: (coPs { a with u := u', v := v' } ⟨L ++ [(o, t)], P⟩ inNil zeroI ++ inPs inNil zeroI)) := by
  have hl := hok.len
  simp only [List.length_append, List.length_cons, List.length_nil] at hl
  refine (once_apply (stopX ((L.length : Int) + 1)) h (by show (2 : Int) ≠ 4; decide) rfl (by show ([] : List UInt8).length ≤ 100; decide) (by show ([] : List UInt8).length ≤ 100; decide) (show inI ((L.length : Int) + 1) = true from inI_iff.2 (by omega)) hok (by show P.length ≤ 99000; omega) hL).mono fun e w' h9 => ?_
  obtain ⟨rfl, u', v', h9⟩ := h9
  rcases once_stop (P := P) (L := L) o d with ⟨t, e0, e1, e2⟩ | ⟨e1, e2⟩
  · rw [e2] at h9
    exact ⟨_, t, by rw [e1], .inl ⟨rfl, e0⟩, u', v', h9⟩
  · rw [e2] at h9
    exact ⟨_, d, by rw [e1], .inr ⟨rfl, rfl⟩, u', v', h9⟩
theorem way_stop {d t : D6} (h : d ∈ RL) (hs : stopOf d = some t) : t ∈ RL := (ways_ok d h _ (.head _) t hs).1
theorem way_reply {d t : D6} {c : Int} (h : d ∈ RL) (hs : replyOf d (waitsOf d).1 c = some t) : t ∈ RL := by
  have hc : c = 1 ∨ c = 2 := by
    unfold replyOf at hs
    split at hs
    · rename_i h1; omega
    · cases hs
  rcases hc with rfl | rfl
  · exact (ways_ok d h _ (.tail _ (.head _)) t hs).1
  · exact (ways_ok d h _ (.tail _ (.tail _ (.head _))) t hs).1
theorem once_some {d : D6} {c : Int} (hw : (waitsOf d).2 = true) (hc : c = 1 ∨ (c = 2 ∧ (waitsOf d).1 ≤ 2)) : ∃ t, replyOf d (waitsOf d).1 c = some t := by
  unfold replyOf
  rw [if_pos ⟨hw, rfl, hc⟩]
  exact ⟨_, rfl⟩
theorem IsOnce.ordE {L : List (OrdS × D6)} (h : IsOnce L) : ∀ x ∈ L, ordE x.1 = 0 := fun x hx => by
  obtain ⟨k, hk, rfl⟩ := List.mem_iff_getElem.1 hx
  have hf := h.few
  rw [h.ord k hk]
  exact ordK_ok k (by omega)
theorem ordK_ref (k : Nat) : (ordK k).ref.length ≤ 16 := by
  show (joinL ordB (k + 1)).length ≤ 16
  unfold joinL
  split <;> simp [ordB]
theorem IsOnce.refsOk {L : List (OrdS × D6)} (h : IsOnce L) : refsOk L := fun x hx => by
  obtain ⟨k, hk, rfl⟩ := List.mem_iff_getElem.1 hx
  rw [h.ord k hk]
  exact ordK_ref k

theorem once_sub (X : List Ent) (Z : Ent) (C I : List Ent) : ∀ e ∈ C, e ∈ X ++ (Z :: (C ++ I)) := fun _e he => List.mem_append_right _ (List.mem_cons_of_mem _ (List.mem_append_left _ he))
/-- How a try ended. -/
def endD (d : D6) : Bool := decide (stateOf d = 3 ∨ stateOf d = 4)
theorem endD_net {d : D6} (h : d ∈ RL) (he : endD d = true) (o : OrdS) : netS o d = 0 := by
  unfold netS
  rw [if_neg (end_net d h (of_decide_eq_true he))]

set_option maxHeartbeats 64000000 in
set_option maxRecDepth 100000 in
theorem againOnce_any {W : World} {v : Value} {ts : List Nat} (h : IsL W 1 v (ts.map tryC)) (hw : ∀ t ∈ ts, t ≤ 255) (hL : LaidE W) : Calls Tryd.prog 4 #[v] W fun e w' => e = .returned (.bool true) ∧ Below W.heap.size W w' := by
  have HO := Own.start W
  have AD := fun (w : World) (hb : Below W.heap.size W w) => tried_any w (hL.below hb)
  have HT := Lib.hid h
  obtain ⟨sp, sc, rfl, hmx⟩ := h.slice
  rw [List.length_map] at HT ⊢
  have HW := Lib.hid hw
  clear h hw hmx
  by_cases h12 : 12 < ts.length
  · have hd : decide ((12 : Int) < (ts.length : Int)) = true := decide_eq_true (by omega)
    clear HT HW h12
    go_enter Tryd.func4, Tryd.ntmps4
    go_wp2_with (first | go_big_skip | (go_at_call 15; go_must ((with_reducible refine (AD _ HO.grown).mono ?_); rintro e w ⟨rfl, hb⟩; replace HO := HO.call hb; clear hb)))
    go_ret
    exact ⟨rfl, HO.grown⟩
  have hd : decide ((12 : Int) < (ts.length : Int)) = false := decide_eq_false (by omega)
  go_enter Tryd.func4, Tryd.ntmps4
  go_wp2_with (first | go_big_skip | (go_at_call 9; go_must ((with_reducible refine (coNew_any _).mono ?_); rintro e w ⟨a, rfl, HO1⟩; replace HO := HO.lift HO1; rw [List.append_nil] at HO; clear HO1)) | ((with_reducible apply wpList_storeAll HO); exact rfl; exact rfl; exact rfl; (repeat (with_reducible (first | exact At.head _ | apply At.tail))); infer_instance; exact rfl; exact rfl; exact rfl; exact rfl; clear HO; intro w HO; (simp only [Act.put])) | (first | ((with_reducible apply wpList_boxAgg _ HO rfl); exact rfl; exact rfl; exact rfl; clear HO; intro b4 w HO; (simp only [Act.put, List.setIfInBounds_toArray, List.set_cons_succ, List.set_cons_zero])) | ((with_reducible apply wpList_allocAgg _ HO rfl); exact rfl; infer_instance; exact rfl; clear HO; intro b4 w HO; (simp only [Act.put, List.setIfInBounds_toArray, List.set_cons_succ, List.set_cons_zero]))))
  have HO1 : Own W w (ordB0 b4 (ordK 0) :: (coPs a ⟨[], []⟩ inNil zeroI ++ inPs inNil zeroI)) := HO
  clear HO hd
  go_loopw [5] (fun iv wr => ∃ (i : Nat) (a' : CoA) (L : List (OrdS × D6)) (P : List Pst), i ≤ ts.length ∧ iv = .int .i64 (i : Int) ∧ a'.c = a.c ∧ L.length = i ∧ i < 9 ∧ IsOnce L ∧ (∀ x ∈ L, endD x.2 = true) ∧ Bk P ∧ P.length ≤ 1000 * i ∧ Own W wr (ordB0 b4 (ordK i) :: (coPs a' ⟨L, P⟩ inNil zeroI ++ inPs inNil zeroI))) (fun iv _ => ts.length - (intOf iv).toNat)
  case atStart => exact ⟨0, a, [], [], by omega, rfl, rfl, rfl, by omega, ⟨fun k hk => by simp at hk, by simp, by simp⟩, by simp, .nil, by simp, HO1⟩
  case round =>
    clear HO1
    obtain ⟨i, a', L, P, hi, rfl, hac, rfl, hi9, hIs, hen, hB, hP, HO⟩ := hrel
    by_cases hil : L.length < ts.length
    rotate_left
    · have hiI : ¬ ((L.length : Int) < (ts.length : Int)) := by omega
      clear hIs hen
      go_wp2_with (first | go_big_skip | (go_at_call 15; go_must ((with_reducible refine (AD _ HO.grown).mono ?_); rintro e w ⟨rfl, hb⟩; replace HO := HO.call hb; clear hb)))
      go_ret
      exact ⟨rfl, HO.grown⟩
    have hiI : (L.length : Int) < (ts.length : Int) := by omega
    obtain ⟨q, rfl, hst⟩ := oldAt HT.out rfl hil
    have hu := HW.out _ (List.getElem_mem hil)
    generalize ts[L.length] = u at *
    have hu1 := fun w' (h1 : Below W.heap.size W w') => hst w' h1 0 _ rfl
    simp only [Nat.mul_one, add0] at hu1
    replace hu1 := Lib.hid hu1
    clear hst
    have hPL := once_place (P := P) hIs hi9
    have AP := fun w (hh : Own W w (ordB0 b4 (ordK L.length) :: (coPs a' ⟨L, P⟩ inNil zeroI ++ inPs inNil zeroI))) => once_apply (placeX (ordK L.length)) hh (by show (1 : Int) ≠ 4; decide) rfl (Nat.le_trans (ordK_ref _) (by decide)) (by show ([120] : List UInt8).length ≤ 100; decide) rfl ⟨by show L.length ≤ 60; omega, hIs.ordE, hB⟩ (by show P.length ≤ 99000; omega) hL
    rw [hPL.1, hPL.2] at AP
    rw [hac] at AP
    have hoid : (ordK L.length).id = (L.length : Int) + 1 := rfl
    have hamt : (ordK L.length).amt = 77 := rfl
    have hsn := fun d (hd : d ∈ RL) => hIs.snoc hi9 hd
    have hor := ordK_ref L.length
    have hso := fun (d t : D6) (P : List Pst) => once_stop (L := L) (P := P) (ordK L.length) d
    have hre := fun (d t : D6) (P : List Pst) (k c : Int) (h : replyOf d k c = some t) => once_reply (L := L) (P := P) (ordK L.length) h
    have hoS := fun (d : D6) => once_at L (ordK L.length, d)
    unfold ordB0 at AP HO
    unfold placeX at AP
    generalize hoo : ordK L.length = o at *
    replace hoo := Lib.hid hoo
    obtain ⟨oid, oref, osku, oq, oa⟩ := o
    simp only at AP HO hoid hamt hor
    subst hoid hamt
    clear hPL
    replace AP := Lib.hid AP
    replace hsn := Lib.hid hsn
    replace hso := Lib.hid hso
    replace hre := Lib.hid hre
    replace hoS := Lib.hid hoS
    replace hen := Lib.hid hen
    replace hIs := Lib.hid hIs
    go_upto_block 2 with (first | go_big_skip | (first | go_big_skip | ((with_reducible apply wpList_loadAll HO); exact rfl; exact rfl; (repeat (with_reducible (first | exact At.head _ | apply At.tail))); infer_instance; exact rfl; exact rfl; (simp only [Act.put, List.setIfInBounds_toArray, List.set_cons_succ, List.set_cons_zero])) | ((with_reducible apply wpList_loadOne HO); exact rfl; exact rfl; (repeat (with_reducible (first | exact At.head _ | apply At.tail))); exact rfl; infer_instance; exact rfl; (simp only [Act.put, List.setIfInBounds_toArray, List.set_cons_succ, List.set_cons_zero]))) | (go_at_call 10; go_must ((with_reducible refine (AP.out _ HO).mono ?_); clear AP HO; rintro e w ⟨rfl, u1, v1, HO⟩)))
    go_cut [6] from 42 to 107 (fun tv wx => ∃ (a2 : CoA) (d : D6) (P2 : List Pst), a2.c = a.c ∧ d ∈ RL ∧ Bk P2 ∧ P2.length ≤ 1000 * L.length + 900 ∧ Own W wx (box b4 (.cells #[.int .i64 ((L.length : Int) + 1), .string ⟨oref.toArray⟩, .string ⟨osku.toArray⟩, .int .i64 oq, .int .i64 77] 33) :: (coPs a2 ⟨L ++ [(⟨(L.length : Int) + 1, oref, osku, oq, 77⟩, d)], P2⟩ inNil zeroI ++ inPs inNil zeroI)))
    case first =>
      go_wp2_with fail
      go_loopw [6] (fun tv wr => ∃ (t : Nat) (a2 : CoA) (d : D6) (P2 : List Pst), t ≤ 8 ∧ tv = .int .i64 (t : Int) ∧ a2.c = a.c ∧ d ∈ RL ∧ Bk P2 ∧ P2.length ≤ 1000 * L.length + 100 * t ∧ Own W wr (box b4 (.cells #[.int .i64 ((L.length : Int) + 1), .string ⟨oref.toArray⟩, .string ⟨osku.toArray⟩, .int .i64 oq, .int .i64 77] 33) :: (coPs a2 ⟨L ++ [(⟨(L.length : Int) + 1, oref, osku, oq, 77⟩, d)], P2⟩ inNil zeroI ++ inPs inNil zeroI))) (fun tv _ => 8 - (intOf tv).toNat)
      case atStart => exact ⟨0, ⟨a.c, v1, a'.k, u1, a'.pm, a'.bm⟩, beginD, P, by omega, rfl, rfl, start_ok.1, hB, by omega, HO⟩
      case round =>
        clear HO
        obtain ⟨t, a2, d, P2, ht, rfl, hac2, hd, hB2, hP2, HO⟩ := hrel
        by_cases ht8 : t < 8
        rotate_left
        · have htI : ¬ ((t : Int) < 8) := by omega
          go_wp2_with fail
          go_meet
          exact ⟨a2, d, P2, hac2, hd, hB2, by omega, HO⟩
        have htI : (t : Int) < 8 := by omega
        obtain ⟨ac, av, ak, au, apm, abm⟩ := a2
        simp only at hac2
        subst hac2
        have hIn := hsn.out d hd
        have hok : CoOk ⟨L ++ [(⟨(L.length : Int) + 1, oref, osku, oq, 77⟩, d)], P2⟩ := ⟨by show (L ++ [_]).length ≤ 60; simp; omega, hIn.ordE, hB2⟩
        have OR := Lib.hid (fun (w : World) (h : CoAt w ⟨a.c, av, ak, au, apm, abm⟩ ⟨L ++ [(⟨(L.length : Int) + 1, oref, osku, oq, 77⟩, d)], P2⟩ inNil zeroI) => coOrder_any h (id := (L.length : Int) + 1) (inI_iff.2 (by omega)))
        simp only [hoS.out d, ordR, sagaV] at OR
        have WT := fun w => waits_any ⟨(L.length : Int) + 1, oref, osku, oq, 77⟩ d w
        simp only [sagaV] at WT
        have CA := Lib.hid (fun (w : World) (X : List Ent) (h : Own W w (X ++ (box b4 (.cells #[.int .i64 ((L.length : Int) + 1), .string ⟨oref.toArray⟩, .string ⟨osku.toArray⟩, .int .i64 oq, .int .i64 77] 33) :: (coPs ⟨a.c, av, ak, au, apm, abm⟩ ⟨L ++ [(⟨(L.length : Int) + 1, oref, osku, oq, 77⟩, d)], P2⟩ inNil zeroI ++ inPs inNil zeroI)))) => (coAt_left' h (once_sub X _ _ _) : CoAt w ⟨a.c, av, ak, au, apm, abm⟩ ⟨L ++ [(⟨(L.length : Int) + 1, oref, osku, oq, 77⟩, d)], P2⟩ inNil zeroI))
        cases hwt : (waitsOf d).2
        · rw [hwt] at WT
          clear hIn hok
          go_wp2_with (first | go_big_skip | (first | go_big_skip | ((with_reducible apply wpList_loadAll HO); exact rfl; exact rfl; (repeat (with_reducible (first | exact At.head _ | apply At.tail))); infer_instance; exact rfl; exact rfl; (simp only [Act.put, List.setIfInBounds_toArray, List.set_cons_succ, List.set_cons_zero])) | ((with_reducible apply wpList_loadOne HO); exact rfl; exact rfl; (repeat (with_reducible (first | exact At.head _ | apply At.tail))); exact rfl; infer_instance; exact rfl; (simp only [Act.put, List.setIfInBounds_toArray, List.set_cons_succ, List.set_cons_zero]))) | ((with_reducible apply wpList_storeAll HO); exact rfl; exact rfl; exact rfl; (repeat (with_reducible (first | exact At.head _ | apply At.tail))); infer_instance; exact rfl; exact rfl; exact rfl; exact rfl; clear HO; intro w HO; (simp only [Act.put])) | (first | ((with_reducible apply wpList_boxAgg _ HO rfl); exact rfl; exact rfl; exact rfl; clear HO; intro b7 w HO; (simp only [Act.put, List.setIfInBounds_toArray, List.set_cons_succ, List.set_cons_zero])) | ((with_reducible apply wpList_allocAgg _ HO rfl); exact rfl; infer_instance; exact rfl; clear HO; intro b7 w HO; (simp only [Act.put, List.setIfInBounds_toArray, List.set_cons_succ, List.set_cons_zero]))) | (go_at_call 16; go_must ((with_reducible refine (OR.out _ (CA.out _ [] HO)).mono ?_); rintro e w ⟨rfl, hb⟩; replace HO := HO.call hb; clear hb)) | (go_at_call 17; go_must ((with_reducible refine (WT _).mono ?_); rintro e w ⟨rfl, hb⟩; replace HO := HO.call hb; clear hb)))
          replace HO := HO.tail
          go_meet
          exact ⟨⟨a.c, av, ak, au, apm, abm⟩, d, P2, rfl, hd, hB2, by omega, HO⟩
        rw [hwt] at WT
        obtain ⟨t1, ht1⟩ := once_some (c := 1) hwt (.inl rfl)
        have ht2 := fun hk => once_some (c := 2) hwt (.inr ⟨rfl, hk⟩)
        have hrl := fun c t (h : replyOf d (waitsOf d).1 c = some t) => way_reply hd h
        clear hIn
        generalize (waitsOf d).1 = k at *
        go_upto_region 16 with (first | go_big_skip | (first | go_big_skip | ((with_reducible apply wpList_loadAll HO); exact rfl; exact rfl; (repeat (with_reducible (first | exact At.head _ | apply At.tail))); infer_instance; exact rfl; exact rfl; (simp only [Act.put, List.setIfInBounds_toArray, List.set_cons_succ, List.set_cons_zero])) | ((with_reducible apply wpList_loadOne HO); exact rfl; exact rfl; (repeat (with_reducible (first | exact At.head _ | apply At.tail))); exact rfl; infer_instance; exact rfl; (simp only [Act.put, List.setIfInBounds_toArray, List.set_cons_succ, List.set_cons_zero]))) | ((with_reducible apply wpList_storeAll HO); exact rfl; exact rfl; exact rfl; (repeat (with_reducible (first | exact At.head _ | apply At.tail))); infer_instance; exact rfl; exact rfl; exact rfl; exact rfl; clear HO; intro w HO; (simp only [Act.put])) | (first | ((with_reducible apply wpList_boxAgg _ HO rfl); exact rfl; exact rfl; exact rfl; clear HO; intro b7 w HO; (simp only [Act.put, List.setIfInBounds_toArray, List.set_cons_succ, List.set_cons_zero])) | ((with_reducible apply wpList_allocAgg _ HO rfl); exact rfl; infer_instance; exact rfl; clear HO; intro b7 w HO; (simp only [Act.put, List.setIfInBounds_toArray, List.set_cons_succ, List.set_cons_zero]))) | (go_at_call 16; go_must ((with_reducible refine (OR.out _ (CA.out _ [] HO)).mono ?_); rintro e w ⟨rfl, hb⟩; replace HO := HO.call hb; clear hb)) | (go_at_call 17; go_must ((with_reducible refine (WT _).mono ?_); rintro e w ⟨rfl, hb⟩; replace HO := HO.call hb; clear hb)))
        replace HO := HO.tail
        clear WT OR CA hwt
        have ST := Lib.hid (fun (w : World) (h : Own W w (box b4 (.cells #[.int .i64 ((L.length : Int) + 1), .string ⟨oref.toArray⟩, .string ⟨osku.toArray⟩, .int .i64 oq, .int .i64 77] 33) :: (coPs ⟨a.c, av, ak, au, apm, abm⟩ ⟨L ++ [(⟨(L.length : Int) + 1, oref, osku, oq, 77⟩, d)], P2⟩ inNil zeroI ++ inPs inNil zeroI))) => once_stepS h hok (by omega) hL)
        have RE := Lib.hid (fun (c : Int) (z : D6) (hz : replyOf d k c = some z) (w : World) (av au : Value) (h : Own W w (box b4 (.cells #[.int .i64 ((L.length : Int) + 1), .string ⟨oref.toArray⟩, .string ⟨osku.toArray⟩, .int .i64 oq, .int .i64 77] 33) :: (coPs ⟨a.c, av, ak, au, apm, abm⟩ ⟨L ++ [(⟨(L.length : Int) + 1, oref, osku, oq, 77⟩, d)], P2⟩ inNil zeroI ++ inPs inNil zeroI))) => once_stepR h hok (by omega) hz hL)
        have hu0 : (0 : Int) ≤ (u : Int) := by omega
        have hu255 : (u : Int) ≤ 255 := by omega
        replace ht1 := Lib.hid ht1
        replace ht2 := Lib.hid ht2
        replace hrl := Lib.hid hrl
        have hws := Lib.hid (fun t (h : stopOf d = some t) => way_stop hd h)
        clear hok
        by_cases c1 : (u : Int) % 2 = 0
        · by_cases c2 : (t : Int) = (u : Int) / 2 % 3
          · have d2 : ((t : Int) == (u : Int) / 2 % 3) = true := by simpa using c2
            clear c2
            go_upto_region 17 with (first | go_big_skip | (first | go_big_skip | ((with_reducible apply wpList_loadAll HO); exact rfl; exact rfl; (repeat (with_reducible (first | exact At.head _ | apply At.tail))); infer_instance; exact rfl; exact rfl; (simp only [Act.put, List.setIfInBounds_toArray, List.set_cons_succ, List.set_cons_zero])) | ((with_reducible apply wpList_loadOne HO); exact rfl; exact rfl; (repeat (with_reducible (first | exact At.head _ | apply At.tail))); exact rfl; infer_instance; exact rfl; (simp only [Act.put, List.setIfInBounds_toArray, List.set_cons_succ, List.set_cons_zero]))) | ((with_reducible apply wpList_loadAt1 HO); exact rfl; exact rfl; exact (fun w' h1 => hu1.out w' h1.grown); infer_instance; exact rfl; (simp only [Act.put, List.setIfInBounds_toArray, List.set_cons_succ, List.set_cons_zero])) | (go_at_call 10; go_must ((with_reducible refine (ST.out _ HO).mono ?_); clear HO; rintro e w ⟨x, t9, rfl, (⟨rfl, hst⟩ | ⟨rfl, rfl⟩), u9, v9, HO⟩)))
            · go_roundw
              case rel => exact ⟨t + 1, ⟨a.c, v9, ak, u9, apm, abm⟩, t9, P2, by omega, by go_num, rfl, hws.out t9 hst, hB2, by omega, HO⟩
              case measure => simp [intOf] <;> omega
            · clear c1 d2
              by_cases c3 : k = (u : Int) / 8 % 4
              · have d3 : (k == (u : Int) / 8 % 4) = true := by simpa using c3
                clear c3
                by_cases c4 : k ≤ 2
                · obtain ⟨z2, hz2⟩ := ht2.out c4
                  have hz3 := Lib.hid hz2
                  clear hz2
                  go_wp2_with (first | go_big_skip | (first | go_big_skip | ((with_reducible apply wpList_loadAll HO); exact rfl; exact rfl; (repeat (with_reducible (first | exact At.head _ | apply At.tail))); infer_instance; exact rfl; exact rfl; (simp only [Act.put, List.setIfInBounds_toArray, List.set_cons_succ, List.set_cons_zero])) | ((with_reducible apply wpList_loadOne HO); exact rfl; exact rfl; (repeat (with_reducible (first | exact At.head _ | apply At.tail))); exact rfl; infer_instance; exact rfl; (simp only [Act.put, List.setIfInBounds_toArray, List.set_cons_succ, List.set_cons_zero]))) | ((with_reducible apply wpList_loadAt1 HO); exact rfl; exact rfl; exact (fun w' h1 => hu1.out w' h1.grown); infer_instance; exact rfl; (simp only [Act.put, List.setIfInBounds_toArray, List.set_cons_succ, List.set_cons_zero])) | (go_at_call 10; go_must ((have h9 := RE.out 2 z2 hz3.out _ _ _ HO); (with_reducible refine h9.mono ?_); clear h9 HO; rintro e w ⟨rfl, u8, v8, P8, hB8, hP8, HO⟩)))
                  go_roundw
                  case rel => exact ⟨t + 1, ⟨a.c, v8, ak, u8, apm, abm⟩, z2, P8, by omega, by go_num, rfl, hrl.out 2 z2 hz3.out, hB8, by omega, HO⟩
                  case measure => simp [intOf] <;> omega
                · go_wp2_with (first | go_big_skip | (first | go_big_skip | ((with_reducible apply wpList_loadAll HO); exact rfl; exact rfl; (repeat (with_reducible (first | exact At.head _ | apply At.tail))); infer_instance; exact rfl; exact rfl; (simp only [Act.put, List.setIfInBounds_toArray, List.set_cons_succ, List.set_cons_zero])) | ((with_reducible apply wpList_loadOne HO); exact rfl; exact rfl; (repeat (with_reducible (first | exact At.head _ | apply At.tail))); exact rfl; infer_instance; exact rfl; (simp only [Act.put, List.setIfInBounds_toArray, List.set_cons_succ, List.set_cons_zero]))) | ((with_reducible apply wpList_loadAt1 HO); exact rfl; exact rfl; exact (fun w' h1 => hu1.out w' h1.grown); infer_instance; exact rfl; (simp only [Act.put, List.setIfInBounds_toArray, List.set_cons_succ, List.set_cons_zero])) | (go_at_call 10; go_must ((have h9 := RE.out 1 t1 ht1.out _ _ _ HO); (with_reducible refine h9.mono ?_); clear h9 HO; rintro e w ⟨rfl, u8, v8, P8, hB8, hP8, HO⟩)))
                  go_roundw
                  case rel => exact ⟨t + 1, ⟨a.c, v8, ak, u8, apm, abm⟩, t1, P8, by omega, by go_num, rfl, hrl.out 1 t1 ht1.out, hB8, by omega, HO⟩
                  case measure => simp [intOf] <;> omega
              · go_wp2_with (first | go_big_skip | (first | go_big_skip | ((with_reducible apply wpList_loadAll HO); exact rfl; exact rfl; (repeat (with_reducible (first | exact At.head _ | apply At.tail))); infer_instance; exact rfl; exact rfl; (simp only [Act.put, List.setIfInBounds_toArray, List.set_cons_succ, List.set_cons_zero])) | ((with_reducible apply wpList_loadOne HO); exact rfl; exact rfl; (repeat (with_reducible (first | exact At.head _ | apply At.tail))); exact rfl; infer_instance; exact rfl; (simp only [Act.put, List.setIfInBounds_toArray, List.set_cons_succ, List.set_cons_zero]))) | ((with_reducible apply wpList_loadAt1 HO); exact rfl; exact rfl; exact (fun w' h1 => hu1.out w' h1.grown); infer_instance; exact rfl; (simp only [Act.put, List.setIfInBounds_toArray, List.set_cons_succ, List.set_cons_zero])) | (go_at_call 10; go_must ((have h9 := RE.out 1 t1 ht1.out _ _ _ HO); (with_reducible refine h9.mono ?_); clear h9 HO; rintro e w ⟨rfl, u8, v8, P8, hB8, hP8, HO⟩)))
                go_roundw
                case rel => exact ⟨t + 1, ⟨a.c, v8, ak, u8, apm, abm⟩, t1, P8, by omega, by go_num, rfl, hrl.out 1 t1 ht1.out, hB8, by omega, HO⟩
                case measure => simp [intOf] <;> omega
          · have d2 : ((t : Int) == (u : Int) / 2 % 3) = false := by simpa using c2
            clear c2
            go_upto_region 17 with (first | go_big_skip | (first | go_big_skip | ((with_reducible apply wpList_loadAll HO); exact rfl; exact rfl; (repeat (with_reducible (first | exact At.head _ | apply At.tail))); infer_instance; exact rfl; exact rfl; (simp only [Act.put, List.setIfInBounds_toArray, List.set_cons_succ, List.set_cons_zero])) | ((with_reducible apply wpList_loadOne HO); exact rfl; exact rfl; (repeat (with_reducible (first | exact At.head _ | apply At.tail))); exact rfl; infer_instance; exact rfl; (simp only [Act.put, List.setIfInBounds_toArray, List.set_cons_succ, List.set_cons_zero]))) | ((with_reducible apply wpList_loadAt1 HO); exact rfl; exact rfl; exact (fun w' h1 => hu1.out w' h1.grown); infer_instance; exact rfl; (simp only [Act.put, List.setIfInBounds_toArray, List.set_cons_succ, List.set_cons_zero])))
            clear c1 d2
            by_cases c3 : k = (u : Int) / 8 % 4
            · have d3 : (k == (u : Int) / 8 % 4) = true := by simpa using c3
              clear c3
              by_cases c4 : k ≤ 2
              · obtain ⟨z2, hz2⟩ := ht2.out c4
                have hz3 := Lib.hid hz2
                clear hz2
                go_wp2_with (first | go_big_skip | (first | go_big_skip | ((with_reducible apply wpList_loadAll HO); exact rfl; exact rfl; (repeat (with_reducible (first | exact At.head _ | apply At.tail))); infer_instance; exact rfl; exact rfl; (simp only [Act.put, List.setIfInBounds_toArray, List.set_cons_succ, List.set_cons_zero])) | ((with_reducible apply wpList_loadOne HO); exact rfl; exact rfl; (repeat (with_reducible (first | exact At.head _ | apply At.tail))); exact rfl; infer_instance; exact rfl; (simp only [Act.put, List.setIfInBounds_toArray, List.set_cons_succ, List.set_cons_zero]))) | ((with_reducible apply wpList_loadAt1 HO); exact rfl; exact rfl; exact (fun w' h1 => hu1.out w' h1.grown); infer_instance; exact rfl; (simp only [Act.put, List.setIfInBounds_toArray, List.set_cons_succ, List.set_cons_zero])) | (go_at_call 10; go_must ((have h9 := RE.out 2 z2 hz3.out _ _ _ HO); (with_reducible refine h9.mono ?_); clear h9 HO; rintro e w ⟨rfl, u8, v8, P8, hB8, hP8, HO⟩)))
                go_roundw
                case rel => exact ⟨t + 1, ⟨a.c, v8, ak, u8, apm, abm⟩, z2, P8, by omega, by go_num, rfl, hrl.out 2 z2 hz3.out, hB8, by omega, HO⟩
                case measure => simp [intOf] <;> omega
              · go_wp2_with (first | go_big_skip | (first | go_big_skip | ((with_reducible apply wpList_loadAll HO); exact rfl; exact rfl; (repeat (with_reducible (first | exact At.head _ | apply At.tail))); infer_instance; exact rfl; exact rfl; (simp only [Act.put, List.setIfInBounds_toArray, List.set_cons_succ, List.set_cons_zero])) | ((with_reducible apply wpList_loadOne HO); exact rfl; exact rfl; (repeat (with_reducible (first | exact At.head _ | apply At.tail))); exact rfl; infer_instance; exact rfl; (simp only [Act.put, List.setIfInBounds_toArray, List.set_cons_succ, List.set_cons_zero]))) | ((with_reducible apply wpList_loadAt1 HO); exact rfl; exact rfl; exact (fun w' h1 => hu1.out w' h1.grown); infer_instance; exact rfl; (simp only [Act.put, List.setIfInBounds_toArray, List.set_cons_succ, List.set_cons_zero])) | (go_at_call 10; go_must ((have h9 := RE.out 1 t1 ht1.out _ _ _ HO); (with_reducible refine h9.mono ?_); clear h9 HO; rintro e w ⟨rfl, u8, v8, P8, hB8, hP8, HO⟩)))
                go_roundw
                case rel => exact ⟨t + 1, ⟨a.c, v8, ak, u8, apm, abm⟩, t1, P8, by omega, by go_num, rfl, hrl.out 1 t1 ht1.out, hB8, by omega, HO⟩
                case measure => simp [intOf] <;> omega
            · go_wp2_with (first | go_big_skip | (first | go_big_skip | ((with_reducible apply wpList_loadAll HO); exact rfl; exact rfl; (repeat (with_reducible (first | exact At.head _ | apply At.tail))); infer_instance; exact rfl; exact rfl; (simp only [Act.put, List.setIfInBounds_toArray, List.set_cons_succ, List.set_cons_zero])) | ((with_reducible apply wpList_loadOne HO); exact rfl; exact rfl; (repeat (with_reducible (first | exact At.head _ | apply At.tail))); exact rfl; infer_instance; exact rfl; (simp only [Act.put, List.setIfInBounds_toArray, List.set_cons_succ, List.set_cons_zero]))) | ((with_reducible apply wpList_loadAt1 HO); exact rfl; exact rfl; exact (fun w' h1 => hu1.out w' h1.grown); infer_instance; exact rfl; (simp only [Act.put, List.setIfInBounds_toArray, List.set_cons_succ, List.set_cons_zero])) | (go_at_call 10; go_must ((have h9 := RE.out 1 t1 ht1.out _ _ _ HO); (with_reducible refine h9.mono ?_); clear h9 HO; rintro e w ⟨rfl, u8, v8, P8, hB8, hP8, HO⟩)))
              go_roundw
              case rel => exact ⟨t + 1, ⟨a.c, v8, ak, u8, apm, abm⟩, t1, P8, by omega, by go_num, rfl, hrl.out 1 t1 ht1.out, hB8, by omega, HO⟩
              case measure => simp [intOf] <;> omega
        · go_upto_region 17 with (first | go_big_skip | (first | go_big_skip | ((with_reducible apply wpList_loadAll HO); exact rfl; exact rfl; (repeat (with_reducible (first | exact At.head _ | apply At.tail))); infer_instance; exact rfl; exact rfl; (simp only [Act.put, List.setIfInBounds_toArray, List.set_cons_succ, List.set_cons_zero])) | ((with_reducible apply wpList_loadOne HO); exact rfl; exact rfl; (repeat (with_reducible (first | exact At.head _ | apply At.tail))); exact rfl; infer_instance; exact rfl; (simp only [Act.put, List.setIfInBounds_toArray, List.set_cons_succ, List.set_cons_zero]))) | ((with_reducible apply wpList_loadAt1 HO); exact rfl; exact rfl; exact (fun w' h1 => hu1.out w' h1.grown); infer_instance; exact rfl; (simp only [Act.put, List.setIfInBounds_toArray, List.set_cons_succ, List.set_cons_zero])))
          clear c1
          by_cases c3 : k = (u : Int) / 8 % 4
          · have d3 : (k == (u : Int) / 8 % 4) = true := by simpa using c3
            clear c3
            by_cases c4 : k ≤ 2
            · obtain ⟨z2, hz2⟩ := ht2.out c4
              have hz3 := Lib.hid hz2
              clear hz2
              go_wp2_with (first | go_big_skip | (first | go_big_skip | ((with_reducible apply wpList_loadAll HO); exact rfl; exact rfl; (repeat (with_reducible (first | exact At.head _ | apply At.tail))); infer_instance; exact rfl; exact rfl; (simp only [Act.put, List.setIfInBounds_toArray, List.set_cons_succ, List.set_cons_zero])) | ((with_reducible apply wpList_loadOne HO); exact rfl; exact rfl; (repeat (with_reducible (first | exact At.head _ | apply At.tail))); exact rfl; infer_instance; exact rfl; (simp only [Act.put, List.setIfInBounds_toArray, List.set_cons_succ, List.set_cons_zero]))) | ((with_reducible apply wpList_loadAt1 HO); exact rfl; exact rfl; exact (fun w' h1 => hu1.out w' h1.grown); infer_instance; exact rfl; (simp only [Act.put, List.setIfInBounds_toArray, List.set_cons_succ, List.set_cons_zero])) | (go_at_call 10; go_must ((have h9 := RE.out 2 z2 hz3.out _ _ _ HO); (with_reducible refine h9.mono ?_); clear h9 HO; rintro e w ⟨rfl, u8, v8, P8, hB8, hP8, HO⟩)))
              go_roundw
              case rel => exact ⟨t + 1, ⟨a.c, v8, ak, u8, apm, abm⟩, z2, P8, by omega, by go_num, rfl, hrl.out 2 z2 hz3.out, hB8, by omega, HO⟩
              case measure => simp [intOf] <;> omega
            · go_wp2_with (first | go_big_skip | (first | go_big_skip | ((with_reducible apply wpList_loadAll HO); exact rfl; exact rfl; (repeat (with_reducible (first | exact At.head _ | apply At.tail))); infer_instance; exact rfl; exact rfl; (simp only [Act.put, List.setIfInBounds_toArray, List.set_cons_succ, List.set_cons_zero])) | ((with_reducible apply wpList_loadOne HO); exact rfl; exact rfl; (repeat (with_reducible (first | exact At.head _ | apply At.tail))); exact rfl; infer_instance; exact rfl; (simp only [Act.put, List.setIfInBounds_toArray, List.set_cons_succ, List.set_cons_zero]))) | ((with_reducible apply wpList_loadAt1 HO); exact rfl; exact rfl; exact (fun w' h1 => hu1.out w' h1.grown); infer_instance; exact rfl; (simp only [Act.put, List.setIfInBounds_toArray, List.set_cons_succ, List.set_cons_zero])) | (go_at_call 10; go_must ((have h9 := RE.out 1 t1 ht1.out _ _ _ HO); (with_reducible refine h9.mono ?_); clear h9 HO; rintro e w ⟨rfl, u8, v8, P8, hB8, hP8, HO⟩)))
              go_roundw
              case rel => exact ⟨t + 1, ⟨a.c, v8, ak, u8, apm, abm⟩, t1, P8, by omega, by go_num, rfl, hrl.out 1 t1 ht1.out, hB8, by omega, HO⟩
              case measure => simp [intOf] <;> omega
          · go_wp2_with (first | go_big_skip | (first | go_big_skip | ((with_reducible apply wpList_loadAll HO); exact rfl; exact rfl; (repeat (with_reducible (first | exact At.head _ | apply At.tail))); infer_instance; exact rfl; exact rfl; (simp only [Act.put, List.setIfInBounds_toArray, List.set_cons_succ, List.set_cons_zero])) | ((with_reducible apply wpList_loadOne HO); exact rfl; exact rfl; (repeat (with_reducible (first | exact At.head _ | apply At.tail))); exact rfl; infer_instance; exact rfl; (simp only [Act.put, List.setIfInBounds_toArray, List.set_cons_succ, List.set_cons_zero]))) | ((with_reducible apply wpList_loadAt1 HO); exact rfl; exact rfl; exact (fun w' h1 => hu1.out w' h1.grown); infer_instance; exact rfl; (simp only [Act.put, List.setIfInBounds_toArray, List.set_cons_succ, List.set_cons_zero])) | (go_at_call 10; go_must ((have h9 := RE.out 1 t1 ht1.out _ _ _ HO); (with_reducible refine h9.mono ?_); clear h9 HO; rintro e w ⟨rfl, u8, v8, P8, hB8, hP8, HO⟩)))
            go_roundw
            case rel => exact ⟨t + 1, ⟨a.c, v8, ak, u8, apm, abm⟩, t1, P8, by omega, by go_num, rfl, hrl.out 1 t1 ht1.out, hB8, by omega, HO⟩
            case measure => simp [intOf] <;> omega
    clear HO
    obtain ⟨a2, d, P2, hac2, hd, hB2, hP2, HO⟩ := hcut
    obtain ⟨ac, av, ak, au, apm, abm⟩ := a2
    simp only at hac2
    subst hac2
    have hIn := hsn.out d hd
    have hok : CoOk ⟨L ++ [(⟨(L.length : Int) + 1, oref, osku, oq, 77⟩, d)], P2⟩ := ⟨by show (L ++ [_]).length ≤ 60; simp; omega, hIn.ordE, hB2⟩
    have hfew : (L ++ [((⟨(L.length : Int) + 1, oref, osku, oq, 77⟩ : OrdS), d)]).length = L.length + 1 := by simp
    have hlast : (L ++ [((⟨(L.length : Int) + 1, oref, osku, oq, 77⟩ : OrdS), d)])[L.length]'(by simp) = (⟨(L.length : Int) + 1, oref, osku, oq, 77⟩, d) := by simp
    have hend : ∀ (k : Nat) (hk : k < (L ++ [((⟨(L.length : Int) + 1, oref, osku, oq, 77⟩ : OrdS), d)]).length), k + 1 < (L ++ [((⟨(L.length : Int) + 1, oref, osku, oq, 77⟩ : OrdS), d)]).length → stateOf ((L ++ [((⟨(L.length : Int) + 1, oref, osku, oq, 77⟩ : OrdS), d)])[k]).2 = 3 ∨ stateOf ((L ++ [((⟨(L.length : Int) + 1, oref, osku, oq, 77⟩ : OrdS), d)])[k]).2 = 4 := fun k hk h1 => by
      rw [hfew] at h1
      have hkl : k < L.length := by omega
      rw [List.getElem_append_left hkl]
      exact of_decide_eq_true (hen.out _ (List.getElem_mem hkl))
    have hch : chainL (L ++ [((⟨(L.length : Int) + 1, oref, osku, oq, 77⟩ : OrdS), d)]) 1 = List.range' 1 (L.length + 1) := by
      have := hIn.chain (k := 0) (by simp)
      rw [hfew] at this
      exact this
    have hcg := hIn.charged hend hfew
    rw [hlast] at hcg
    have hnx := hIn.next hfew
    rw [hlast] at hnx
    have hfi := fun (h : 1 ≤ L.length) => hIn.first (by rw [hfew]; omega) (hend 0 (by rw [hfew]; omega) (by rw [hfew]; omega))
    have CH := Lib.hid (fun (w : World) (h : CoAt w ⟨a.c, av, ak, au, apm, abm⟩ ⟨L ++ [(⟨(L.length : Int) + 1, oref, osku, oq, 77⟩, d)], P2⟩ inNil zeroI) => chain_any h hok.len hIn.refsOk (id := 1) rfl)
    have CG := Lib.hid (fun (w : World) (h : CoAt w ⟨a.c, av, ak, au, apm, abm⟩ ⟨L ++ [(⟨(L.length : Int) + 1, oref, osku, oq, 77⟩, d)], P2⟩ inNil zeroI) => charged_again h hok.len hIn.ordE (id := (L.length : Int) + 1) (inI_iff.2 (by omega)))
    have NX := Lib.hid (fun (w : World) (h : CoAt w ⟨a.c, av, ak, au, apm, abm⟩ ⟨L ++ [(⟨(L.length : Int) + 1, oref, osku, oq, 77⟩, d)], P2⟩ inNil zeroI) => next_any h hok.len hIn.refsOk (id := (L.length : Int) + 1) (inI_iff.2 (by omega)))
    have N1 := Lib.hid (fun (w : World) (h : CoAt w ⟨a.c, av, ak, au, apm, abm⟩ ⟨L ++ [(⟨(L.length : Int) + 1, oref, osku, oq, 77⟩, d)], P2⟩ inNil zeroI) => next_any h hok.len hIn.refsOk (id := 1) rfl)
    have OR := Lib.hid (fun (w : World) (k : Int) (hk : inI k = true) (h : CoAt w ⟨a.c, av, ak, au, apm, abm⟩ ⟨L ++ [(⟨(L.length : Int) + 1, oref, osku, oq, 77⟩, d)], P2⟩ inNil zeroI) => coOrder_any h hk)
    have hoL := Lib.hid (fun (k : Nat) (hk : k < L.length) => show ordAt (L ++ [((⟨(L.length : Int) + 1, oref, osku, oq, 77⟩ : OrdS), d)]) ((k : Int) + 1) = some L[k] by
      rw [ordAt_yes rfl (by rw [hfew]; omega), List.getElem_append_left hk])
    have hoE := Lib.hid (hoS.out d)
    simp only [hch] at CH
    simp only [hcg] at CG
    simp only at OR NX N1
    have CA := Lib.hid (fun (w : World) (X : List Ent) (h : Own W w (X ++ (box b4 (.cells #[.int .i64 ((L.length : Int) + 1), .string ⟨oref.toArray⟩, .string ⟨osku.toArray⟩, .int .i64 oq, .int .i64 77] 33) :: (coPs ⟨a.c, av, ak, au, apm, abm⟩ ⟨L ++ [(⟨(L.length : Int) + 1, oref, osku, oq, 77⟩, d)], P2⟩ inNil zeroI ++ inPs inNil zeroI)))) => (coAt_left' h (once_sub X _ _ _) : CoAt w ⟨a.c, av, ak, au, apm, abm⟩ ⟨L ++ [(⟨(L.length : Int) + 1, oref, osku, oq, 77⟩, d)], P2⟩ inNil zeroI))
    have hnet : netS ⟨(L.length : Int) + 1, oref, osku, oq, 77⟩ d = if endD d = true then 0 else netS ⟨(L.length : Int) + 1, oref, osku, oq, 77⟩ d := by
      split
      · rename_i he; exact endD_net hd he _
      · rfl
    replace hnet := Lib.hid hnet
    have hst3 := Lib.hid (fun (x : D6) (h : endD x = true) => (of_decide_eq_true h : stateOf x = 3 ∨ stateOf x = 4))
    have hstN := Lib.hid (fun (h : ¬ endD d = true) => (fun hh => h (decide_eq_true hh) : ¬ (stateOf d = 3 ∨ stateOf d = 4)))
    have NT := fun w => sagaNet_any ⟨(L.length : Int) + 1, oref, osku, oq, 77⟩ d w
    have SE := Lib.hid (fun (o : OrdS) (s : D6) (w : World) => state_any o s w)
    simp only [sagaV] at NT
    generalize hS1 : netS ⟨(L.length : Int) + 1, oref, osku, oq, 77⟩ d = S1 at *
    obtain ⟨A1, hA1⟩ : ∃ x : Int, x = if endD d = true then 0 else 1 := ⟨_, rfl⟩
    replace hA1 := Lib.hid hA1
    replace hS1 := Lib.hid hS1
    replace hnx := Lib.hid hnx
    replace hfi := Lib.hid hfi
    replace NT := Lib.hid NT
    clear hch hcg hend hlast hfew hok
    go_wp2_with (first | go_big_skip | (go_at_call 18; go_must ((with_reducible refine (CH.out _ (CA.out _ [] HO)).mono ?_); rintro e w ⟨v8, rfl, HO1⟩; replace HO := HO.lift HO1; clear HO1; simp only [List.cons_append, List.nil_append] at HO; obtain ⟨p8, c8, rfl⟩ := (HO.rowForm (v := v8) (.head _)).2 (by simp); rw [List.length_map, List.length_range'] at HO ⊢)))
    go_loopw [13, 14, 15] (fun av9 sv kv wr => ∃ k : Nat, k ≤ L.length + 1 ∧ kv = .int .i64 (k : Int) ∧ (k ≤ L.length ∧ av9 = .int .i64 0 ∧ sv = .int .i64 0 ∨ k = L.length + 1 ∧ av9 = .int .i64 A1 ∧ sv = .int .i64 S1) ∧ Own W wr (row 3 1 (.slice (some p8) (L.length + 1) c8) ((List.range' 1 (L.length + 1)).map intC) :: box b4 (.cells #[.int .i64 ((L.length : Int) + 1), .string ⟨oref.toArray⟩, .string ⟨osku.toArray⟩, .int .i64 oq, .int .i64 77] 33) :: (coPs ⟨a.c, av, ak, au, apm, abm⟩ ⟨L ++ [(⟨(L.length : Int) + 1, oref, osku, oq, 77⟩, d)], P2⟩ inNil zeroI ++ inPs inNil zeroI))) (fun _ _ kv _ => L.length + 1 - (intOf kv).toNat)
    case atStart => exact ⟨0, by omega, rfl, .inl ⟨by omega, rfl, rfl⟩, HO⟩
    case round =>
      clear HO
      obtain ⟨k, hk, rfl, hkk, HO⟩ := hrel
      rcases hkk with ⟨hkl, rfl, rfl⟩ | ⟨rfl, rfl, rfl⟩
      · have hkI : (k : Int) < (L.length : Int) + 1 := by omega
        have RW := Lib.hid (fun (w' : World) (h1 : Own W w' (row 3 1 (.slice (some p8) (L.length + 1) c8) ((List.range' 1 (L.length + 1)).map intC) :: box b4 (.cells #[.int .i64 ((L.length : Int) + 1), .string ⟨oref.toArray⟩, .string ⟨osku.toArray⟩, .int .i64 oq, .int .i64 77] 33) :: (coPs ⟨a.c, av, ak, au, apm, abm⟩ ⟨L ++ [(⟨(L.length : Int) + 1, oref, osku, oq, 77⟩, d)], P2⟩ inNil zeroI ++ inPs inNil zeroI))) => show w'.cell? (p8.add k) = some (.int .i64 ((k : Int) + 1)) from by
          have h2 := isL_cell' (isL_of_owns (intC_len (List.range' 1 (L.length + 1))) (h1.has _ List.mem_cons_self)) (j := k) (by simp; omega) 0 (.int .i64 ((k : Int) + 1)) (by simp [intC]; omega)
          rwa [Nat.mul_one, add0] at h2)
        have hOk := OR.out
        have ORk := fun w => OR.out w ((k : Int) + 1) (inI_iff.2 (by omega))
        by_cases hkL : k < L.length
        · rw [hoL.out k hkL] at ORk
          have hst := hst3.out _ (hen.out _ (List.getElem_mem hkL))
          generalize L[k] = y at *
          obtain ⟨yo, ys⟩ := y
          simp only [ordR, sagaV] at ORk hst
          have ST := fun w => SE.out yo ys w
          simp only [sagaV] at ST
          replace ORk := Lib.hid ORk
          generalize stateOf ys = ss at *
          clear hOk
          rcases hst with rfl | rfl
          all_goals
            go_wp2_with (first | go_big_skip | (first | go_big_skip | ((with_reducible apply wpList_loadAll HO); exact rfl; exact rfl; (repeat (with_reducible (first | exact At.head _ | apply At.tail))); infer_instance; exact rfl; exact rfl; (simp only [Act.put, List.setIfInBounds_toArray, List.set_cons_succ, List.set_cons_zero])) | ((with_reducible apply wpList_loadOne HO); exact rfl; exact rfl; (repeat (with_reducible (first | exact At.head _ | apply At.tail))); exact rfl; infer_instance; exact rfl; (simp only [Act.put, List.setIfInBounds_toArray, List.set_cons_succ, List.set_cons_zero]))) | ((with_reducible apply wpList_storeAll HO); exact rfl; exact rfl; exact rfl; (repeat (with_reducible (first | exact At.head _ | apply At.tail))); infer_instance; exact rfl; exact rfl; exact rfl; exact rfl; clear HO; intro w HO; (simp only [Act.put])) | (first | ((with_reducible apply wpList_boxAgg _ HO rfl); exact rfl; exact rfl; exact rfl; clear HO; intro b16 w HO; (simp only [Act.put, List.setIfInBounds_toArray, List.set_cons_succ, List.set_cons_zero])) | ((with_reducible apply wpList_allocAgg _ HO rfl); exact rfl; infer_instance; exact rfl; clear HO; intro b16 w HO; (simp only [Act.put, List.setIfInBounds_toArray, List.set_cons_succ, List.set_cons_zero]))) | ((with_reducible apply wpList_loadAt1 HO); exact rfl; exact rfl; exact (fun w' h1 => RW.out w' h1); infer_instance; exact rfl; (simp only [Act.put, List.setIfInBounds_toArray, List.set_cons_succ, List.set_cons_zero])) | (go_at_call 16; go_must ((with_reducible refine (ORk.out _ (CA.out _ [_] HO)).mono ?_); rintro e w ⟨rfl, hb⟩; replace HO := HO.call hb; clear hb)) | (go_at_call 19; go_must ((with_reducible refine (ST _).mono ?_); rintro e w ⟨rfl, hb⟩; replace HO := HO.call hb; clear hb)))
            replace HO := HO.tail
            go_roundw
            case rel => exact ⟨k + 1, by omega, by go_num, .inl ⟨by omega, rfl, rfl⟩, HO⟩
            case measure => simp [intOf] <;> omega
        · obtain rfl : k = L.length := by omega
          rw [hoE.out] at ORk
          simp only [ordR, sagaV] at ORk
          replace ORk := Lib.hid ORk
          have ST := fun w => SE.out ⟨(L.length : Int) + 1, oref, osku, oq, 77⟩ d w
          simp only [sagaV] at ST
          clear hOk
          by_cases he : endD d = true
          · have hst := hst3.out d he
            have h0 : A1 = 0 := by rw [hA1.out, if_pos he]
            have h1 : S1 = 0 := by rw [hnet.out, if_pos he]
            generalize stateOf d = ss at *
            subst h0 h1
            rcases hst with rfl | rfl
            all_goals
              go_wp2_with (first | go_big_skip | (first | go_big_skip | ((with_reducible apply wpList_loadAll HO); exact rfl; exact rfl; (repeat (with_reducible (first | exact At.head _ | apply At.tail))); infer_instance; exact rfl; exact rfl; (simp only [Act.put, List.setIfInBounds_toArray, List.set_cons_succ, List.set_cons_zero])) | ((with_reducible apply wpList_loadOne HO); exact rfl; exact rfl; (repeat (with_reducible (first | exact At.head _ | apply At.tail))); exact rfl; infer_instance; exact rfl; (simp only [Act.put, List.setIfInBounds_toArray, List.set_cons_succ, List.set_cons_zero]))) | ((with_reducible apply wpList_storeAll HO); exact rfl; exact rfl; exact rfl; (repeat (with_reducible (first | exact At.head _ | apply At.tail))); infer_instance; exact rfl; exact rfl; exact rfl; exact rfl; clear HO; intro w HO; (simp only [Act.put])) | (first | ((with_reducible apply wpList_boxAgg _ HO rfl); exact rfl; exact rfl; exact rfl; clear HO; intro b16 w HO; (simp only [Act.put, List.setIfInBounds_toArray, List.set_cons_succ, List.set_cons_zero])) | ((with_reducible apply wpList_allocAgg _ HO rfl); exact rfl; infer_instance; exact rfl; clear HO; intro b16 w HO; (simp only [Act.put, List.setIfInBounds_toArray, List.set_cons_succ, List.set_cons_zero]))) | ((with_reducible apply wpList_loadAt1 HO); exact rfl; exact rfl; exact (fun w' h1 => RW.out w' h1); infer_instance; exact rfl; (simp only [Act.put, List.setIfInBounds_toArray, List.set_cons_succ, List.set_cons_zero])) | (go_at_call 16; go_must ((with_reducible refine (ORk.out _ (CA.out _ [_] HO)).mono ?_); rintro e w ⟨rfl, hb⟩; replace HO := HO.call hb; clear hb)) | (go_at_call 19; go_must ((with_reducible refine (ST _).mono ?_); rintro e w ⟨rfl, hb⟩; replace HO := HO.call hb; clear hb)))
              replace HO := HO.tail
              go_roundw
              case rel => exact ⟨L.length + 1, by omega, by go_num, .inr ⟨by omega, rfl, rfl⟩, HO⟩
              case measure => simp [intOf] <;> omega
          · have hst := hstN.out he
            have h0 : A1 = 1 := by rw [hA1.out, if_neg he]
            generalize stateOf d = ss at *
            subst h0
            have d3 : (ss != 3) = true := by rw [bne_iff_ne]; exact fun h => hst (.inl h)
            have d4 : (ss != 4) = true := by rw [bne_iff_ne]; exact fun h => hst (.inr h)
            clear hst he
            go_wp2_with (first | go_big_skip | (first | go_big_skip | ((with_reducible apply wpList_loadAll HO); exact rfl; exact rfl; (repeat (with_reducible (first | exact At.head _ | apply At.tail))); infer_instance; exact rfl; exact rfl; (simp only [Act.put, List.setIfInBounds_toArray, List.set_cons_succ, List.set_cons_zero])) | ((with_reducible apply wpList_loadOne HO); exact rfl; exact rfl; (repeat (with_reducible (first | exact At.head _ | apply At.tail))); exact rfl; infer_instance; exact rfl; (simp only [Act.put, List.setIfInBounds_toArray, List.set_cons_succ, List.set_cons_zero]))) | ((with_reducible apply wpList_storeAll HO); exact rfl; exact rfl; exact rfl; (repeat (with_reducible (first | exact At.head _ | apply At.tail))); infer_instance; exact rfl; exact rfl; exact rfl; exact rfl; clear HO; intro w HO; (simp only [Act.put])) | (first | ((with_reducible apply wpList_boxAgg _ HO rfl); exact rfl; exact rfl; exact rfl; clear HO; intro b16 w HO; (simp only [Act.put, List.setIfInBounds_toArray, List.set_cons_succ, List.set_cons_zero])) | ((with_reducible apply wpList_allocAgg _ HO rfl); exact rfl; infer_instance; exact rfl; clear HO; intro b16 w HO; (simp only [Act.put, List.setIfInBounds_toArray, List.set_cons_succ, List.set_cons_zero]))) | ((with_reducible apply wpList_loadAt1 HO); exact rfl; exact rfl; exact (fun w' h1 => RW.out w' h1); infer_instance; exact rfl; (simp only [Act.put, List.setIfInBounds_toArray, List.set_cons_succ, List.set_cons_zero])) | (go_at_call 16; go_must ((with_reducible refine (ORk.out _ (CA.out _ [_] HO)).mono ?_); rintro e w ⟨rfl, hb⟩; replace HO := HO.call hb; clear hb)) | (go_at_call 19; go_must ((with_reducible refine (ST _).mono ?_); rintro e w ⟨rfl, hb⟩; replace HO := HO.call hb; clear hb)) | (go_at_call 20; go_must ((with_reducible refine (NT.out _).mono ?_); rintro e w ⟨rfl, hb⟩; replace HO := HO.call hb; clear hb)))
            replace HO := HO.tail
            go_roundw
            case rel => exact ⟨L.length + 1, by omega, by go_num, .inr ⟨by omega, rfl, rfl⟩, HO⟩
            case measure => simp [intOf] <;> omega
      · have hkI : ¬ ((L.length : Int) + 1 < (L.length : Int) + 1) := by omega
        have hd9 : decide ((9 : Int) < (L.length : Int) + 1) = false := decide_eq_false (by omega)
        have hS2 := hS1
        clear hS1 hnet NT SE hst3 OR hoL hoE CH
        by_cases he : endD d = true
        · have h0 : A1 = 0 := by rw [hA1.out, if_pos he]
          have hes : ¬ (stateOf d ≠ 3 ∧ stateOf d ≠ 4) := by have := (of_decide_eq_true he : stateOf d = 3 ∨ stateOf d = 4); omega
          rw [if_neg hes] at hnx
          subst h0
          go_upto_region 34 with (first | go_big_skip | (first | go_big_skip | ((with_reducible apply wpList_loadAll HO); exact rfl; exact rfl; (repeat (with_reducible (first | exact At.head _ | apply At.tail))); infer_instance; exact rfl; exact rfl; (simp only [Act.put, List.setIfInBounds_toArray, List.set_cons_succ, List.set_cons_zero])) | ((with_reducible apply wpList_loadOne HO); exact rfl; exact rfl; (repeat (with_reducible (first | exact At.head _ | apply At.tail))); exact rfl; infer_instance; exact rfl; (simp only [Act.put, List.setIfInBounds_toArray, List.set_cons_succ, List.set_cons_zero]))) | (go_at_call 21; go_must ((with_reducible refine (CG.out _ (CA.out _ [_] HO)).mono ?_); rintro e w ⟨rfl, hb⟩; replace HO := HO.call hb; clear hb)))
          clear hes hstN hA1 CG
          by_cases h8 : L.length = 8
          · rw [if_pos h8] at hnx
            simp only [hnx.out, ordV, zeroO] at NX
            have d8 : ((L.length : Int) == 8) = true := by rw [beq_iff_eq]; omega
            clear h8 hnx N1 hfi
            go_wp2_with (first | go_big_skip | (first | go_big_skip | ((with_reducible apply wpList_loadAll HO); exact rfl; exact rfl; (repeat (with_reducible (first | exact At.head _ | apply At.tail))); infer_instance; exact rfl; exact rfl; (simp only [Act.put, List.setIfInBounds_toArray, List.set_cons_succ, List.set_cons_zero])) | ((with_reducible apply wpList_loadOne HO); exact rfl; exact rfl; (repeat (with_reducible (first | exact At.head _ | apply At.tail))); exact rfl; infer_instance; exact rfl; (simp only [Act.put, List.setIfInBounds_toArray, List.set_cons_succ, List.set_cons_zero]))) | ((with_reducible apply wpList_storeAll HO); exact rfl; exact rfl; exact rfl; (repeat (with_reducible (first | exact At.head _ | apply At.tail))); infer_instance; exact rfl; exact rfl; exact rfl; exact rfl; clear HO; intro w HO; (simp only [Act.put])) | (first | ((with_reducible apply wpList_boxAgg _ HO rfl); exact rfl; exact rfl; exact rfl; clear HO; intro b21 w HO; (simp only [Act.put, List.setIfInBounds_toArray, List.set_cons_succ, List.set_cons_zero])) | ((with_reducible apply wpList_allocAgg _ HO rfl); exact rfl; infer_instance; exact rfl; clear HO; intro b21 w HO; (simp only [Act.put, List.setIfInBounds_toArray, List.set_cons_succ, List.set_cons_zero]))) | (go_at_call 22; go_must ((with_reducible refine (NX.out _ (CA.out _ [_] HO)).mono ?_); rintro e w ⟨rfl, hb⟩; replace HO := HO.call hb; clear hb)) | (go_at_call 15; go_must ((with_reducible refine (AD _ HO.grown).mono ?_); rintro e w ⟨rfl, hb⟩; replace HO := HO.call hb; clear hb)))
            go_ret
            exact ⟨rfl, HO.grown⟩
          rw [if_neg h8] at hnx
          simp only [hnx.out, ordV] at NX
          obtain ⟨o2, hoo2⟩ : ∃ x, x = ordK (L.length + 1) := ⟨_, rfl⟩
          rw [← hoo2] at NX
          replace hoo2 := Lib.hid hoo2
          obtain ⟨z1, hz1⟩ : ∃ x, x = nextR (L ++ [((⟨(L.length : Int) + 1, oref, osku, oq, 77⟩ : OrdS), d)]) 1 := ⟨_, rfl⟩
          rw [← hz1] at N1
          have hz2 := Lib.hid (fun h => hz1.trans (hfi.out h))
          clear hz1 hfi hnx
          obtain ⟨⟨y1, y2, y3, y4, y5⟩, e1⟩ := z1
          simp only [ordV] at N1
          obtain ⟨o2i, o2r, o2s, o2q, o2a⟩ := o2
          simp only at NX
          by_cases hL0 : L.length = 0
          · have hd1 : decide ((1 : Int) < (L.length : Int) + 1) = false := decide_eq_false (by omega)
            clear hL0 hz2
            go_wp2_with (first | go_big_skip | (first | go_big_skip | ((with_reducible apply wpList_loadAll HO); exact rfl; exact rfl; (repeat (with_reducible (first | exact At.head _ | apply At.tail))); infer_instance; exact rfl; exact rfl; (simp only [Act.put, List.setIfInBounds_toArray, List.set_cons_succ, List.set_cons_zero])) | ((with_reducible apply wpList_loadOne HO); exact rfl; exact rfl; (repeat (with_reducible (first | exact At.head _ | apply At.tail))); exact rfl; infer_instance; exact rfl; (simp only [Act.put, List.setIfInBounds_toArray, List.set_cons_succ, List.set_cons_zero]))) | ((with_reducible apply wpList_storeAll HO); exact rfl; exact rfl; exact rfl; (repeat (with_reducible (first | exact At.head _ | apply At.tail))); infer_instance; exact rfl; exact rfl; exact rfl; exact rfl; clear HO; intro w HO; (simp only [Act.put])) | (first | ((with_reducible apply wpList_boxAgg _ HO rfl); exact rfl; exact rfl; exact rfl; clear HO; intro b21 w HO; (simp only [Act.put, List.setIfInBounds_toArray, List.set_cons_succ, List.set_cons_zero])) | ((with_reducible apply wpList_allocAgg _ HO rfl); exact rfl; infer_instance; exact rfl; clear HO; intro b21 w HO; (simp only [Act.put, List.setIfInBounds_toArray, List.set_cons_succ, List.set_cons_zero]))) | (go_at_call 22; first | ((with_reducible refine (NX.out _ (CA.out _ [_] HO)).mono ?_); (rintro e w ⟨rfl, hb⟩; replace HO := HO.call hb; clear hb)) | ((with_reducible refine (N1.out _ (CA.out _ [_, _] HO)).mono ?_); (rintro e w ⟨rfl, hb⟩; replace HO := HO.call hb; clear hb))))
            go_roundw
            case rel => exact ⟨L.length + 1, ⟨a.c, av, ak, au, apm, abm⟩, L ++ [(⟨(L.length : Int) + 1, oref, osku, oq, 77⟩, d)], P2, by omega, by go_num, rfl, by simp, by omega, hIn, (fun x hx => (List.mem_append.1 hx).elim (fun hx => hen.out x hx) (fun hx => by rw [List.mem_singleton.1 hx]; exact he)), hB2, by omega, (by unfold ordB0; rw [← hoo2.out]; exact (HO.sub (.cons _ (.cons _ (.cons _ (List.Sublist.refl _))))))⟩
            case measure => simp [intOf] <;> omega
          · have hd1 : decide ((1 : Int) < (L.length : Int) + 1) = true := decide_eq_true (by omega)
            have hz3 := hz2.out (by omega)
            obtain ⟨-, rfl⟩ := Prod.mk.inj hz3
            clear hL0 hz2 hz3
            go_wp2_with (first | go_big_skip | (first | go_big_skip | ((with_reducible apply wpList_loadAll HO); exact rfl; exact rfl; (repeat (with_reducible (first | exact At.head _ | apply At.tail))); infer_instance; exact rfl; exact rfl; (simp only [Act.put, List.setIfInBounds_toArray, List.set_cons_succ, List.set_cons_zero])) | ((with_reducible apply wpList_loadOne HO); exact rfl; exact rfl; (repeat (with_reducible (first | exact At.head _ | apply At.tail))); exact rfl; infer_instance; exact rfl; (simp only [Act.put, List.setIfInBounds_toArray, List.set_cons_succ, List.set_cons_zero]))) | ((with_reducible apply wpList_storeAll HO); exact rfl; exact rfl; exact rfl; (repeat (with_reducible (first | exact At.head _ | apply At.tail))); infer_instance; exact rfl; exact rfl; exact rfl; exact rfl; clear HO; intro w HO; (simp only [Act.put])) | (first | ((with_reducible apply wpList_boxAgg _ HO rfl); exact rfl; exact rfl; exact rfl; clear HO; intro b21 w HO; (simp only [Act.put, List.setIfInBounds_toArray, List.set_cons_succ, List.set_cons_zero])) | ((with_reducible apply wpList_allocAgg _ HO rfl); exact rfl; infer_instance; exact rfl; clear HO; intro b21 w HO; (simp only [Act.put, List.setIfInBounds_toArray, List.set_cons_succ, List.set_cons_zero]))) | (go_at_call 22; first | ((with_reducible refine (NX.out _ (CA.out _ [_] HO)).mono ?_); (rintro e w ⟨rfl, hb⟩; replace HO := HO.call hb; clear hb)) | ((with_reducible refine (N1.out _ (CA.out _ [_, _] HO)).mono ?_); (rintro e w ⟨rfl, hb⟩; replace HO := HO.call hb; clear hb))))
            go_roundw
            case rel => exact ⟨L.length + 1, ⟨a.c, av, ak, au, apm, abm⟩, L ++ [(⟨(L.length : Int) + 1, oref, osku, oq, 77⟩, d)], P2, by omega, by go_num, rfl, by simp, by omega, hIn, (fun x hx => (List.mem_append.1 hx).elim (fun hx => hen.out x hx) (fun hx => by rw [List.mem_singleton.1 hx]; exact he)), hB2, by omega, (by unfold ordB0; rw [← hoo2.out]; exact (HO.sub (.cons _ (.cons _ (.cons _ (List.Sublist.refl _))))))⟩
            case measure => simp [intOf] <;> omega
        · have h0 : A1 = 1 := by rw [hA1.out, if_neg he]
          have hes := hstN.out he
          have hes2 : stateOf d ≠ 3 ∧ stateOf d ≠ 4 := ⟨fun h => hes (.inl h), fun h => hes (.inr h)⟩
          rw [if_pos hes2] at hnx
          clear hes2
          subst h0
          simp only [hnx.out, ordV, zeroO] at NX
          clear hes hstN hA1 he hnx N1 hfi
          go_upto_region 34 with (first | go_big_skip | (first | go_big_skip | ((with_reducible apply wpList_loadAll HO); exact rfl; exact rfl; (repeat (with_reducible (first | exact At.head _ | apply At.tail))); infer_instance; exact rfl; exact rfl; (simp only [Act.put, List.setIfInBounds_toArray, List.set_cons_succ, List.set_cons_zero])) | ((with_reducible apply wpList_loadOne HO); exact rfl; exact rfl; (repeat (with_reducible (first | exact At.head _ | apply At.tail))); exact rfl; infer_instance; exact rfl; (simp only [Act.put, List.setIfInBounds_toArray, List.set_cons_succ, List.set_cons_zero]))) | (go_at_call 21; go_must ((with_reducible refine (CG.out _ (CA.out _ [_] HO)).mono ?_); rintro e w ⟨rfl, hb⟩; replace HO := HO.call hb; clear hb)))
          go_wp2_with (first | go_big_skip | (first | go_big_skip | ((with_reducible apply wpList_loadAll HO); exact rfl; exact rfl; (repeat (with_reducible (first | exact At.head _ | apply At.tail))); infer_instance; exact rfl; exact rfl; (simp only [Act.put, List.setIfInBounds_toArray, List.set_cons_succ, List.set_cons_zero])) | ((with_reducible apply wpList_loadOne HO); exact rfl; exact rfl; (repeat (with_reducible (first | exact At.head _ | apply At.tail))); exact rfl; infer_instance; exact rfl; (simp only [Act.put, List.setIfInBounds_toArray, List.set_cons_succ, List.set_cons_zero]))) | ((with_reducible apply wpList_storeAll HO); exact rfl; exact rfl; exact rfl; (repeat (with_reducible (first | exact At.head _ | apply At.tail))); infer_instance; exact rfl; exact rfl; exact rfl; exact rfl; clear HO; intro w HO; (simp only [Act.put])) | (first | ((with_reducible apply wpList_boxAgg _ HO rfl); exact rfl; exact rfl; exact rfl; clear HO; intro b21 w HO; (simp only [Act.put, List.setIfInBounds_toArray, List.set_cons_succ, List.set_cons_zero])) | ((with_reducible apply wpList_allocAgg _ HO rfl); exact rfl; infer_instance; exact rfl; clear HO; intro b21 w HO; (simp only [Act.put, List.setIfInBounds_toArray, List.set_cons_succ, List.set_cons_zero]))) | (go_at_call 22; go_must ((with_reducible refine (NX.out _ (CA.out _ [_] HO)).mono ?_); rintro e w ⟨rfl, hb⟩; replace HO := HO.call hb; clear hb)) | (go_at_call 15; go_must ((with_reducible refine (AD _ HO.grown).mono ?_); rintro e w ⟨rfl, hb⟩; replace HO := HO.call hb; clear hb)))
          go_ret
          exact ⟨rfl, HO.grown⟩
end Go.Proofs.YtibabfedpdoofaaDoor
namespace Go.Own
open Go.RowKit Go.ChangeShapes Go.WideShapes

theorem trodAll_below {H : Type} {enc : TypeId × Value → H} {P : Program} (hl : laidOutB P = true) {W W' : World} (hb : Below W.heap.size W W') :
    ∀ {ts : List TypeId} {vs : List Value} {ds : List (DataW H)} {ps : List MemPlace}, (∀ t ∈ ts, P.readableRec t = true ∧ t < P.types.size) → (∀ p ∈ ps, p.block < W.heap.size) →
      DataW.TrodAll enc P W 0 (fun _ => true) true ts vs ds ps → DataW.TrodAll enc P W' 0 (fun b => decide (b < W.heap.size)) true ts vs ds ps
  | [], _, _, _, _, _, h => by
    obtain ⟨rfl, rfl, rfl⟩ := trodAll_nil h
    exact trodAll_mk0
  | t :: ts, _, _, _, hr, hp, h => by
    obtain ⟨v, vs1, d, ds1, a, b, rfl, rfl, rfl, h1, h2⟩ := trodAll_cons h
    have ht := hr t List.mem_cons_self
    exact trodAll_cons_mk (Below.trod hl ht.1 ht.2 h1 hb (fun x hx => hp x (List.mem_append_left _ hx)))
      (trodAll_below hl hb (fun u hu => hr u (List.mem_cons_of_mem _ hu)) (fun x hx => hp x (List.mem_append_right _ hx)) h2)

/-- A law's post, from what the walk says: it returns true, and nothing that was there has changed. -/
theorem law_post {H : Type} {enc : TypeId × Value → H} {P : Program} {f : Func} {s : ChangeSpec} {W W' : World} {args : Array Value} {ds gs : List (DataW H)} {before : List MemPlace} {tb : TypeId}
    (hl : laidOutB P = true) (hrd : (f.params.toList.all fun t => P.readableRec t && decide (t < P.types.size)) = true) (hres : f.resultTypes = #[tb]) (htb : P.underlying tb = some .bool) (hvars : s.vars = [])
    (hW : DataW.Whole enc P f.params.toList s.vars false W args.toList ds gs before) (hfn : s.fn H (ds ++ gs) = { results := [.lit (.bool true)], args := ds }) (hb : Below W.heap.size W W') :
    s.post enc P f false true false false W args (.bool true) W' := by
  have hlt := hW.lt
  have hW0 := hW
  obtain ⟨p, q, hA, hV, rfl, hfz, hnd⟩ := hW
  rw [hvars] at hV
  obtain ⟨rfl, rfl⟩ := trodVars_none hV
  have hr : ∀ t ∈ f.params.toList, P.readableRec t = true ∧ t < P.types.size := fun t ht => by
    have := List.all_eq_true.1 hrd t ht
    simpa using this
  refine ⟨ds, [], _, [], p, [], hW0, ?_, ?_, ?_, hb.frame _, fun h => by cases h⟩
  · rw [hfn, hres]
    exact trodAll_mk1 (shut_bool htb true)
  · rw [hfn]
    exact trodAll_below hl hb hr (fun x hx => hlt x (List.mem_append_left _ hx)) hA
  · rw [hfn, hvars]
    rfl
end Go.Own
namespace Go.Own
open Go.RowKit Go.Maps Go.WideElems Go.WideShapes

/-- A table at any place of the list. -/
theorem tab_of {P : Program} {W : World} {name : String} {k : IntKind} {zs : List Int} {rest : List (String × DataW Unit)} {ps : List MemPlace} {g : Nat} {t e : TypeId} {n : Nat}
    (hg : P.globalNamed name = some g) (hty : (P.globals[g]?).map (·.type) = some t) (ht : P.underlying t = some (.array n e)) (he : P.underlying e = some (.int k)) (hce : P.cellsOf e = 1) (hct : P.cellsOf t = n)
    (h : DataW.LaidVars P W ((name, Lib.tabData k zs) :: rest) ps) : Lib.TabIs P W name k zs := by
  obtain ⟨g', t', cs, fuel, p, q, hg', ht', hvar, hd, _, _⟩ := h
  obtain rfl := Option.some.inj (hg.symm.trans hg')
  obtain rfl := Option.some.inj (hty.symm.trans ht')
  unfold Lib.TabIs
  rw [hvar, ← Lib.cells_of_tab ht he hce hct hd]
theorem tail_of {P : Program} {W : World} {x : String × DataW Unit} {rest : List (String × DataW Unit)} {ps : List MemPlace} (h : DataW.LaidVars P W (x :: rest) ps) : ∃ qs, DataW.LaidVars P W rest qs := by
  obtain ⟨_, _, _, _, _, q, _, _, _, _, h, _⟩ := h
  exact ⟨q, h⟩
/-- A map of texts to numbers that is laid, as a map's own piece. -/
theorem map_laid {P : Program} {W : World} {k e : TypeId} {kd : IntKind} {fuel b : Nat} {es : Array MapEntry} {clock : Nat} {sp : Nat → Bool} {held : Bool} {base : Nat} {E : List (Lit × DataW Unit)} {f : Lit → Option Value} (K : WideMaps.KeyLaw P k)
    (he : P.underlying e = some (.int kd)) (hb : W.heap[b]? = some (.map es clock)) (F : Fit P k (elemAt (fun _ => ()) P W base sp held fuel e) es clock)
    (hE : E = (es.toList.map (rg P k (elemAt (fun _ => ()) P W base sp held fuel e))).foldr DataW.insert [])
    (h1 : ∀ l d, (l, d) ∈ E → ∃ n, d = .lit (.int kd n) ∧ f l = some (.int kd n)) (h2 : ∀ l, (f l).isSome = true → ∃ d, (l, d) ∈ E) : (mapE P k b es.size f).F W := by
  have key : ∀ x ∈ es.toList, ∃ l n, keyOf P k x.key = some l ∧ x.val = .int kd n ∧ f l = some (.int kd n) ∧ rd (H := Value) P k tokR x = some (l, .held (.int kd n)) ∧ (l, DataW.lit (.int kd n)) ∈ E := fun x hx => by
    obtain ⟨y, hy⟩ := F.reads x hx
    have hk := rd_key hy
    have hm : y ∈ E := by
      rw [hE]
      refine (sorted_perm _).symm.subset (List.mem_map.2 ⟨x, hx, rg_of hy⟩)
    obtain ⟨n, hd, hf⟩ := h1 y.1 y.2 hm
    have hv : x.val = .int kd n := by
      unfold rd at hy
      rw [hk] at hy
      simp only [Option.bind_some, Option.map_eq_some_iff] at hy
      obtain ⟨z, hz, hzy⟩ := hy
      have hz1 : z.1 = y.2 := congrArg Prod.snd hzy
      unfold elemAt at hz
      split at hz
      · rename_i hform
        obtain ⟨n', e1, e2, _⟩ := DataW.trod_int he hz
        rw [← hz1, e2] at hd
        simp only [DataW.lit.injEq, Lit.int.injEq, true_and] at hd
        subst hd
        unfold Value.formed at hform
        rw [he] at hform
        cases hxv : x.val <;> rw [hxv] at e1 hform <;> simp_all [Value.cells]
      · cases hz
    refine ⟨y.1, n, hk, hv, hf, ?_, by rw [← hd]; exact hm⟩
    unfold rd
    rw [hk, hv]
    rfl
  have F' : Fit P k (tokR) es clock := ⟨F.size, F.stamped, fun x hx => by
    obtain ⟨l, n, _, _, _, h, _⟩ := key x hx
    exact ⟨_, h⟩⟩
  refine ⟨_, ⟨es, clock, hb, F', Nat.le_refl _, rfl⟩, ⟨_, rfl⟩, fun l hl z => ?_⟩
  have hs := atKey_sorted (es.toList.map (rg P k tokR)) (Go.ChangeMaps.rising_of_pairwise _ (Go.ChangeMaps.sorted_sorted _ (F'.strKeys K) (F'.apart K))) l hl
  by_cases hh : ∃ x ∈ es.toList, keyOf P k x.key = some l
  · obtain ⟨x, hx, hk⟩ := hh
    obtain ⟨l', n, hk', _, hf, hr, _⟩ := key x hx
    obtain rfl := Option.some.inj (hk.symm.trans hk')
    rw [hf]
    exact hs.2 (l, .held (.int kd n)) (List.mem_map.2 ⟨x, hx, rg_of hr⟩) rfl z
  · have hn : f l = none := by
      cases hfl : f l with
      | none => rfl
      | some v =>
        obtain ⟨d, hd⟩ := h2 l (by rw [hfl]; rfl)
        rw [hE] at hd
        obtain ⟨x, hx, hxe⟩ := List.mem_map.1 ((sorted_perm _).subset hd)
        obtain ⟨y, hy⟩ := F.reads x hx
        rw [rg_of hy] at hxe
        subst hxe
        exact absurd ⟨x, hx, rd_key hy⟩ hh
    rw [hn]
    refine hs.1 (fun p hp => ?_) z
    obtain ⟨x, hx, rfl⟩ := List.mem_map.1 hp
    obtain ⟨l', n, hk', _, _, hr, _⟩ := key x hx
    rw [rg_of hr]
    intro e
    exact hh ⟨x, hx, by rw [hk']; exact congrArg some e⟩
end Go.Own
namespace Go.Proofs.YtibabfedpdoofaaDoor
open Go.RowKit Go.Own Go.Maps Go.WideElems Go.ChangeShapes Go.WideShapes

theorem own : ownKnob Tryd.prog.godebug = none := by kernel_rfl
theorem laidOut : laidOutB Tryd.prog = true := by kernel_rfl
theorem gTab : Tryd.prog.globalNamed "consignor/keys.parties" = some 2 := by kernel_rfl
theorem gTabType : (Tryd.prog.globals[2]?).map (·.type) = some 50 := by kernel_rfl
theorem gDeed : Tryd.prog.globalNamed "consignor/keys.deeds" = some 0 := by kernel_rfl
theorem gDeedType : (Tryd.prog.globals[0]?).map (·.type) = some 144 := by kernel_rfl
theorem gPowType : (Tryd.prog.globals[1]?).map (·.type) = some 163 := by kernel_rfl
theorem cellsTab : Tryd.prog.cellsOf 50 = 6 := by kernel_rfl
theorem cellsPow : Tryd.prog.cellsOf 163 = 20 := by kernel_rfl
theorem cellsInt : Tryd.prog.cellsOf 3 = 1 := by kernel_rfl
theorem cellsU64 : Tryd.prog.cellsOf 157 = 1 := by kernel_rfl
theorem deeds_met {W : World} {ps : List MemPlace} (h : DataW.LaidVars Tryd.prog W [("consignor/keys.deeds", Rows.laid_consignor_keys_deeds)] ps) : DeedsLaid W := by
  obtain ⟨g', t', cs, fuel, p, q, hg', ht', hvar, hd, _, _⟩ := h
  obtain rfl := Option.some.inj (gDeed.symm.trans hg')
  obtain rfl := Option.some.inj (gDeedType.symm.trans ht')
  have hc := fun i v (hi : cs[i]? = some v) => World.var?_cell gDeed hvar i ▸ hi
  rcases open_map Tryd.underlying144 hd with ⟨_, h2⟩ | ⟨b, es, clock, n, rfl, hcs, hb, _, F, hx⟩
  · cases h2
  · have h0 : cs[0]? = some (.map (some b)) := by
      have := congrArg (·[0]?) hcs
      simpa using this
    have hcell : W.cell? ⟨0, 0, none⟩ = some (.map (some b)) := by rw [World.var?_cell gDeed hvar 0]; exact h0
    have hE := congrArg Prod.fst hx
    simp only [Rows.laid_consignor_keys_deeds, DataW.map.injEq] at hE
    refine ⟨World.block_lt_of_cell? W _ hcell, b, es.size, hcell, map_laid (WideMaps.string_law Tryd.underlying9) Tryd.underlying3 hb F hE ?_ ?_⟩
    · intro l d hm
      simp only [List.mem_cons, List.not_mem_nil, or_false, Prod.mk.injEq] at hm
      rcases hm with ⟨rfl, rfl⟩ | ⟨rfl, rfl⟩ | ⟨rfl, rfl⟩ | ⟨rfl, rfl⟩ | ⟨rfl, rfl⟩ | ⟨rfl, rfl⟩
      all_goals exact ⟨_, rfl, rfl⟩
    · intro l hl
      obtain ⟨v, hv⟩ := Option.isSome_iff_exists.1 hl
      obtain ⟨d, h0, h5, rfl, rfl⟩ := deedsF_inv hv
      have : d = 0 ∨ d = 1 ∨ d = 2 ∨ d = 3 ∨ d = 4 ∨ d = 5 := by omega
      rcases this with rfl | rfl | rfl | rfl | rfl | rfl
      all_goals exact ⟨_, by simp [deedL]; rfl⟩
/-- What the rows' list gives. -/
theorem laidE_of {W : World} (h : laidMetH Tryd.prog [("math/bits.deBruijn32tab", Rows.laid_math_bits_deBruijn32tab), ("math/bits.deBruijn64tab", Rows.laid_math_bits_deBruijn64tab), ("internal/strconv.uint64pow10", Rows.laid_internal_strconv_uint64pow10), ("consignor/keys.parties", Rows.laid_consignor_keys_parties), ("consignor/keys.deeds", Rows.laid_consignor_keys_deeds)] W) : LaidE W := by
  obtain ⟨ps, h, _⟩ := (h : laidMet Tryd.prog _ W)
  obtain ⟨_, h⟩ := tail_of h
  obtain ⟨_, h⟩ := tail_of h
  have T : Lib.TabIs Tryd.prog W "internal/strconv.uint64pow10" .u64 Lib.pow10Tab := tab_of gPow gPowType Tryd.underlying163 Tryd.underlying157 cellsU64 cellsPow h
  obtain ⟨_, h⟩ := tail_of h
  have P : Lib.TabIs Tryd.prog W "consignor/keys.parties" .i64 [1, 0, 2, 1, 0, 2] := tab_of gTab gTabType Tryd.underlying50 Tryd.underlying3 cellsInt cellsTab h
  obtain ⟨_, h⟩ := tail_of h
  have c0 : W.cell? ⟨2, 0, none⟩ = some (.int .i64 1) := P.cell gTab 0 (by decide)
  exact ⟨⟨World.block_lt_of_cell? W _ c0, c0, P.cell gTab 1 (by decide), P.cell gTab 2 (by decide), P.cell gTab 3 (by decide), P.cell gTab 4 (by decide), P.cell gTab 5 (by decide)⟩, deeds_met h, T⟩
/-- A world for a witness: the settled one, tables and map holding what their initialisers lay. -/
def litVal : DataW Unit → Value
  | .lit (.int k n) => .int k n
  | _ => .int .u8 0
def litCells : DataW Unit → Array Value
  | .agg ps => (ps.map litVal).toArray
  | _ => #[]
def putCells (cs : Array Value) : Obj → Obj
  | .cells _ t frozen => .cells cs t frozen
  | o => o
def deedsObj : Obj := .map #[⟨.string ⟨#[99, 104, 97, 114, 103, 101]⟩, .int .i64 1, 0⟩, ⟨.string ⟨#[114, 101, 102, 117, 110, 100]⟩, .int .i64 4, 1⟩, ⟨.string ⟨#[114, 101, 108, 101, 97, 115, 101]⟩, .int .i64 3, 2⟩, ⟨.string ⟨#[114, 101, 115, 101, 114, 118, 101]⟩, .int .i64 0, 3⟩, ⟨.string ⟨#[115, 104, 105, 112]⟩, .int .i64 2, 4⟩, ⟨.string ⟨#[118, 111, 105, 100]⟩, .int .i64 5, 5⟩] 6
def laidHeap (h : Array Obj) : Array Obj :=
  let h1 := h.modify 3 (putCells (litCells Rows.laid_math_bits_deBruijn32tab))
  let h2 := h1.modify 4 (putCells (litCells Rows.laid_math_bits_deBruijn64tab))
  let h3 := h2.modify 1 (putCells (litCells Rows.laid_internal_strconv_uint64pow10))
  let h4 := h3.modify 2 (putCells (litCells Rows.laid_consignor_keys_parties))
  let h5 := h4.modify 0 (putCells #[.map (some h.size)])
  h5.push deedsObj
noncomputable def laidWorld (os : Os) : World :=
  { World.holding Tryd.prog os ⟨#[], #[], []⟩ with heap := laidHeap (World.holding Tryd.prog os ⟨#[], #[], []⟩).heap }
end Go.Proofs.YtibabfedpdoofaaDoor
namespace Go.Own
open Go.RowKit Go.ChangeShapes Go.WideShapes Go.Deep

/-- Structs of k cells that came in; f: a struct's cells; p: what is known of each. -/
theorem slice_of {H R : Type} [Inhabited R] {enc : TypeId × Value → H} {P : Program} {W : World} {base : Nat} {spare : Nat → Bool} {held : Bool} {fuel : Nat} {t e : TypeId} {cs : List Value} {x : DataW H × List MemPlace} {k : Nat} (f : R → List Value) (p : R → Prop)
    (ht : P.underlying t = some (.slice e)) (hk : P.cellsOf e = k) (hpos : 0 < k) (hf : ∀ r, (f r).length = k)
    (hel : ∀ (fuel' : Nat) (cs' : List Value) (x' : DataW H × List MemPlace), DataW.trod enc P W base spare held fuel' e cs' = some x' → cs'.length = k → ∃ r, cs' = f r ∧ p r)
    (h : DataW.trod enc P W base spare held fuel t cs = some x) : ∃ (v : Value) (L : List R), cs = [v] ∧ IsL W k v (L.map f) ∧ ∀ r ∈ L, p r := by
  rcases open_slice ht h with ⟨rfl, rfl⟩ | ⟨a, len, cap, m, n, D, Pl, rfl, hb, hl, hm, hmm, hx, hi⟩
  · exact ⟨_, [], rfl, .none _ _ (fun _ => rfl), by simp⟩
  · rw [hk] at hi
    have hlm : len ≤ m := by rw [hmm]; split <;> omega
    have hr : ∀ i, i < len → ∃ r : R, (∀ j (u : Value), (f r)[j]? = some u → W.cell? ((a.add (i * k)).add j) = some u) ∧ p r := fun i him => by
      obtain ⟨cs', hc, ht⟩ := hi i (by omega)
      obtain ⟨_, hlen, hg⟩ := World.cells?_some hc
      obtain ⟨r, rfl, hp⟩ := hel _ _ _ ht hlen
      refine ⟨r, fun j u hu => ?_, hp⟩
      have hj : j < k := by
        have := (List.getElem?_eq_some_iff.1 hu).1
        rwa [hf] at this
      rw [hg j hj]
      simpa using hu
    obtain ⟨G, hG⟩ := choose_lt (α := R) (p := fun i r => (∀ j (u : Value), (f r)[j]? = some u → W.cell? ((a.add (i * k)).add j) = some u) ∧ p r) hr
    refine ⟨_, (List.range len).map G, rfl, ?_, fun r hr => ?_⟩
    · by_cases h0 : len = 0
      · subst h0; exact .none _ _ (fun e => by cases e)
      have hL : (((List.range len).map G).map f).length = len := by simp
      have key : IsL W k (.slice (some a) (((List.range len).map G).map f).length cap) (((List.range len).map G).map f) := by
        refine .some a cap _ (by omega) hm (by omega) ⟨?_, fun i h j u hu => ?_⟩
        · have h1 : 0 < (f (G 0)).length := by rw [hf]; exact hpos
          have := World.block_lt_of_cell? W _ ((hG 0 (by omega)).1 0 _ (List.getElem?_eq_getElem h1))
          rwa [lBlock, lBlock] at this
        · rw [hL] at h
          simp only [List.getElem_map, List.getElem_range] at hu
          exact (hG i h).1 j u hu
      rwa [hL] at key
    · obtain ⟨i, hi', rfl⟩ := List.mem_map.1 hr
      exact (hG i (List.mem_range.1 hi')).2
end Go.Own
namespace Go.Proofs.YtibabfedpdoofaaDoor
open Go.RowKit Go.Own Go.ChangeShapes Go.WideShapes Go.Deep

end Go.Proofs.YtibabfedpdoofaaDoor
namespace Go.Proofs.YtibabfedpdoofaaDoor
open Go.RowKit Go.Own Go.ChangeShapes Go.WideShapes Go.ChangeAt

theorem cellsU8 : Tryd.prog.cellsOf 5 = 1 := by kernel_rfl
set_option maxRecDepth 100000 in
theorem tries_of {H : Type} {enc : TypeId × Value → H} {W : World} {base : Nat} {spare : Nat → Bool} {held : Bool} {v : Value} {d : DataW H} {p : List MemPlace}
    (h : DataW.Trod enc Tryd.prog W base spare held 49 v d p) (hv : v.cells.toList = [v]) : ∃ ns : List Nat, IsL W 1 v (ns.map tryC) ∧ ∀ n ∈ ns, n ≤ 255 := by
  obtain ⟨fuel, hf⟩ := h
  obtain ⟨u, ns, e, hI, hw⟩ := slice_of tryC (fun n => n ≤ 255) Tryd.underlying49 cellsU8 (by decide) (fun _ => rfl) (fun fuel' cs x hx hl => by
    obtain ⟨n, e, _, hwf⟩ := DataW.trod_int Tryd.underlying5 hx
    simp [Lit.wf, IntKind.min, IntKind.max, IntKind.bits, IntKind.signed] at hwf
    refine ⟨n.toNat, ?_, by omega⟩
    unfold tryC
    rw [Int.toNat_of_nonneg hwf.1]
    match cs, hl with
    | [c], _ => simpa using e) hf
  rw [hv] at e
  obtain rfl : v = u := by simpa using e
  exact ⟨ns, hI, hw⟩
end Go.Proofs.YtibabfedpdoofaaDoor

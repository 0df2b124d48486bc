/-
  What Apply keeps; plain.
  A reference's base and try, by walking the program's text; conditions: texts that fit memory.
  The order of a reference, the next try, all tries, what they came to, by walking the program's text; conditions: the core is one that entries come to.
  All tries of an order, and what they came to, by walking the program's text; conditions: the core is one that entries come to.
  The plain law of AgainPlaced: references of placed orders are apart, each order is in its own chain, and what Next tells can be placed; conditions: none.
  What postings are called; plain.
  What the document's core comes to, and that it is what the program's does; plain.
  The document's numbers and keys as texts, by walking its text; conditions: int64 numbers.
-/
import Derived.Lib.ItoaMem
import Derived.Test.YtibabfedpdoofaaGreatDoorPt1
import Derived.Test.YtibabfedpdoofaaGreatDoorPt3
import Derived.Test.YtibabfedpdoofaaGreatDoorPt7
import Derived.Test.YtibabfedpdoofaaGreatDoorPt8
import Derived.Test.YtibabfedpdoofaaGreatDoorPt9
import Derived.Test.YtibabfedpdoofaaGreatDoorPt10
namespace Go.Proofs.YtibabfedpdoofaaGreatDoor
open Go.RowKit Go.Own Go.Maps

theorem placeL_ok {L : List (OrdS × D6)} {o : OrdS} (hl : L.length ≤ 60) (h : ∀ x ∈ L, ordE x.1 = 0) : (placeL L o).length ≤ 60 ∧ ∀ x ∈ placeL L o, ordE x.1 = 0 := by
  unfold placeL
  split
  · rename_i h1
    unfold placeE at h1
    split at h1
    · rename_i h2; exact absurd h1 h2
    · rename_i h2
      split at h1
      · cases h1
      · split at h1
        · cases h1
        · refine ⟨by simp; omega, fun x hx => ?_⟩
          rcases List.mem_append.1 hx with hx | hx
          · exact h x hx
          · obtain rfl := List.mem_singleton.1 hx
            simpa using h2
  · exact ⟨hl, h⟩
theorem sagAt_ok {L : List (OrdS × D6)} {id : Int} {x : OrdS × D6} {t : D6} (hx : ordAt L id = some x) (hl : L.length ≤ 60) (h : ∀ x ∈ L, ordE x.1 = 0) : (sagAt L id (x.1, t)).length ≤ 60 ∧ ∀ z ∈ sagAt L id (x.1, t), ordE z.1 = 0 := by
  obtain ⟨j, hj, _, rfl⟩ := ordAt_some hx
  refine ⟨by simpa [sagAt] using hl, fun y hy => ?_⟩
  rcases List.mem_or_eq_of_mem_set hy with hy | rfl
  · exact h y hy
  · exact h L[j] (List.getElem_mem hj)
theorem postL_len1 (l : List Pst) (p : Pst) : (postL l p).length ≤ l.length + 1 := by
  unfold postL
  split
  · simp
  · omega
theorem applyS_ok {S : CoS} {A : InS} (h : CoOk S) (x : EntS) : CoOk (applyS S A x) ∧ (applyS S A x).P.length ≤ S.P.length + 60 := by
  unfold applyS
  split
  · exact ⟨⟨(placeL_ok h.len h.ord).1, (placeL_ok h.len h.ord).2, h.bk⟩, by simp⟩
  split
  · refine ⟨?_, by simp⟩
    show CoOk ⟨stopL S.L x.o, S.P⟩
    unfold stopL
    split
    · exact h
    · rename_i y hy
      split
      · exact h
      · exact ⟨(sagAt_ok hy h.len h.ord).1, (sagAt_ok hy h.len h.ord).2, h.bk⟩
  split
  · unfold replyS
    split
    · exact ⟨h, by omega⟩
    · rename_i y hy
      split
      · exact ⟨h, by omega⟩
      · refine ⟨⟨(sagAt_ok hy h.len h.ord).1, (sagAt_ok hy h.len h.ord).2, ?_⟩, ?_⟩
        · show Bk (replyP S.P _ _ _)
          unfold replyP
          split
          · exact h.bk.post _
          · split
            · exact h.bk.post _
            · exact h.bk
        · show (replyP S.P _ _ _).length ≤ _
          unfold replyP
          split
          · exact Nat.le_trans (postL_len1 _ _) (by omega)
          · split
            · exact Nat.le_trans (postL_len1 _ _) (by omega)
            · omega
  split
  · split
    · exact ⟨⟨h.len, h.ord, (stmtP_ok h.bk _ _ _).1⟩, (stmtP_ok h.bk _ _ _).2⟩
    · exact ⟨h, by omega⟩
  · exact ⟨h, by omega⟩
theorem applyI_ok {A : InS} (h : InOk A) (x : EntS) : InOk (applyI A x) := by
  unfold applyI
  split
  · rename_i h1
    exact put_ok h (accE_ok h1.2).1
  · exact h
theorem coNew_ok : CoOk ⟨[], []⟩ := ⟨by simp, by simp, .nil⟩
/-- What entries come to. -/
def coreS : CoS × InS → List EntS → CoS × InS := List.foldl (fun s x => (applyS s.1 s.2 x, applyI s.2 x))
def coreOf (l : List EntS) : CoS × InS := coreS (⟨[], []⟩, zeroI) l
theorem coreOf_snoc (l : List EntS) {j : Nat} (hj : j < l.length) : coreOf (l.take (j + 1)) = (applyS (coreOf (l.take j)).1 (coreOf (l.take j)).2 l[j], applyI (coreOf (l.take j)).2 l[j]) := by
  rw [coreOf, List.take_succ_eq_append_getElem hj, coreS, List.foldl_append]
  rfl
theorem coreOf_ok (l : List EntS) : ∀ j ≤ l.length, CoOk (coreOf (l.take j)).1 ∧ (coreOf (l.take j)).1.P.length ≤ 60 * j ∧ InOk (coreOf (l.take j)).2
  | 0, _ => ⟨coNew_ok, by simp [coreOf, coreS], zeroI_ok⟩
  | j + 1, h => by
    obtain ⟨h1, h2, h3⟩ := coreOf_ok l j (by omega)
    rw [coreOf_snoc l (by omega)]
    obtain ⟨h4, h5⟩ := applyS_ok (A := (coreOf (l.take j)).2) h1 l[j]
    exact ⟨h4, by dsimp only; omega, applyI_ok h3 _⟩
end Go.Proofs.YtibabfedpdoofaaGreatDoor
namespace Go.Proofs.YtibabfedpdoofaaGreatDoor
open Go.RowKit Go.Own Go.Maps

/-- Whether a reference ends in a try. -/
def isTry (l : List UInt8) : Bool := decide (2 < l.length) && (decide (l.getD (l.length - 2) 0 = 45) && (decide (50 ≤ (l.getD (l.length - 1) 0).toNat) && decide ((l.getD (l.length - 1) 0).toNat ≤ 57)))
def splitB (l : List UInt8) : List UInt8 := if isTry l = true then l.take (l.length - 2) else l
def splitT (l : List UInt8) : Nat := if isTry l = true then (l.getD (l.length - 1) 0).toNat - 48 else 1
def joinL (b : List UInt8) (t : Nat) : List UInt8 := if t = 1 then b else b ++ [45, UInt8.ofNat (48 + t)]

theorem getD_at {l : List UInt8} {k : Nat} (h : k < l.length) : l.getD k 0 = l[k] := by simp [List.getD, h]

set_option maxHeartbeats 8000000 in
set_option maxRecDepth 100000 in
theorem split_any (l : List UInt8) (hl : l.length ≤ maxLen) (w : World) : Calls Tryz.prog 67 #[.string ⟨l.toArray⟩] w fun e w' => e = .returned (.tuple #[.string ⟨(splitB l).toArray⟩, .int .i64 (splitT l : Int)]) ∧ Below w.heap.size w w' := by
  have HO := Own.start w
  unfold maxLen at hl
  by_cases h2 : 2 < l.length
  · obtain ⟨k, hk⟩ : ∃ k, l.length = k + 2 := ⟨l.length - 2, by omega⟩
    have hkl : k < l.length := by omega
    have hkl1 : k + 1 < l.length := by omega
    have e1 : IntKind.i64.wrap ((l.length : Int) - 2) = (k : Int) := by rw [wrap_in (inI_iff.2 (by omega))]; omega
    have e2 : IntKind.i64.wrap ((l.length : Int) - 1) = ((k + 1 : Nat) : Int) := by rw [wrap_in (inI_iff.2 (by omega))]; omega
    have hI : (2 : Int) < (l.length : Int) := by omega
    have hkI : (k : Int) < (l.length : Int) := by omega
    have hkI1 : ((k + 1 : Nat) : Int) < (l.length : Int) := by omega
    have HB := Lib.hid (show splitB l = if isTry l = true then l.take k else l by unfold splitB; rw [hk]; rfl)
    have HT := Lib.hid (show splitT l = if isTry l = true then l[k + 1].toNat - 48 else 1 by unfold splitT; rw [hk, show k + 2 - 1 = k + 1 by omega, getD_at hkl1])
    have HY : isTry l = (decide (l[k] = 45) && (decide (50 ≤ l[k + 1].toNat) && decide (l[k + 1].toNat ≤ 57))) := by
      unfold isTry
      rw [hk, show k + 2 - 1 = k + 1 by omega, show k + 2 - 2 = k by omega, getD_at hkl, getD_at hkl1, decide_eq_true (show 2 < k + 2 by omega), Bool.true_and]
    have hlt57 := l[k + 1].toNat_lt
    have hq : (l[k] = 45) ↔ l[k].toNat = 45 := ⟨fun h => by rw [h]; rfl, fun h => UInt8.toNat_inj.1 h⟩
    generalize isTry l = tr at *
    generalize splitB l = sb at *
    generalize splitT l = st at *
    by_cases c1 : l[k].toNat = 45
    · rw [decide_eq_true (hq.2 c1), Bool.true_and] at HY
      have d1 : ((l[k].toNat : Int) == 45) = true := by rw [c1]; rfl
      by_cases c2 : 50 ≤ l[k + 1].toNat
      · rw [decide_eq_true c2, Bool.true_and] at HY
        have d2 : (50 : Int) ≤ (l[k + 1].toNat : Int) := by omega
        by_cases c3 : l[k + 1].toNat ≤ 57
        · rw [decide_eq_true c3] at HY
          have d3 : (l[k + 1].toNat : Int) ≤ 57 := by omega
          subst HY
          rw [if_pos rfl] at HB HT
          clear hq hk c1
          go_enter Tryz.func67, Tryz.ntmps67
          go_upto_region 3 with fail
          refine region_own HO (by kernel_rfl) (by kernel_rfl) ?_
          clear HO
          intro F HF
          repeat (first | (first | go_big_quiet_skip | ((with_reducible apply wpQuiet_loadAll HF); exact rfl; exact rfl; (repeat (with_reducible (first | exact At.head _ | apply At.tail))); infer_instance; exact rfl; exact rfl; (simp only [Act.put, List.setIfInBounds_toArray, List.set_cons_succ, List.set_cons_zero])) | ((with_reducible apply wpQuiet_loadOne HF); exact rfl; exact rfl; (repeat (with_reducible (first | exact At.head _ | apply At.tail))); exact rfl; infer_instance; exact rfl; (simp only [Act.put, List.setIfInBounds_toArray, List.set_cons_succ, List.set_cons_zero])) | ((with_reducible apply wpQuiet_loadPart HF); exact rfl; exact rfl; (repeat (with_reducible (first | exact At.head _ | apply At.tail))); infer_instance; exact (Nat.le_of_ble_eq_true rfl); (simp only [List.drop_succ_cons, List.drop_zero, List.take_succ_cons, List.take_zero]; rfl); exact rfl; (simp only [Act.put, List.setIfInBounds_toArray, List.set_cons_succ, List.set_cons_zero]))) | go_big_quiet_step (fail))
          refine wpQuiet_nil ?_
          intro x
          have HO := HF.own x
          clear HF
          generalize F x = w at *
          clear x F
          go_wp2_with fail
          go_ret2
          exact ⟨by rw [HB.out, HT.out, Int.ofNat_sub (by omega)]; rfl, HO.grown⟩
        · rw [decide_eq_false c3] at HY
          have d3 : ¬ ((l[k + 1].toNat : Int) ≤ 57) := by omega
          subst HY
          rw [if_neg (by decide)] at HB HT
          clear hq hk c1
          go_enter Tryz.func67, Tryz.ntmps67
          go_wp2_with fail
          go_ret2
          exact ⟨by rw [HB.out, HT.out]; rfl, HO.grown⟩
      · rw [decide_eq_false c2, Bool.false_and] at HY
        have d2 : ¬ ((50 : Int) ≤ (l[k + 1].toNat : Int)) := by omega
        subst HY
        rw [if_neg (by decide)] at HB HT
        clear hq hk c1
        go_enter Tryz.func67, Tryz.ntmps67
        go_wp2_with fail
        go_ret2
        exact ⟨by rw [HB.out, HT.out]; rfl, HO.grown⟩
    · rw [decide_eq_false (fun h => c1 (hq.1 h)), Bool.false_and] at HY
      have d1 : ((l[k].toNat : Int) == 45) = false := by rw [beq_eq_false_iff_ne]; omega
      subst HY
      rw [if_neg (by decide)] at HB HT
      clear hq hk c1
      go_enter Tryz.func67, Tryz.ntmps67
      go_wp2_with fail
      go_ret2
      exact ⟨by rw [HB.out, HT.out]; rfl, HO.grown⟩
  · have hI : ¬ ((2 : Int) < (l.length : Int)) := by omega
    have HB := Lib.hid (show splitB l = l by unfold splitB isTry; rw [decide_eq_false h2]; rfl)
    have HT := Lib.hid (show splitT l = 1 by unfold splitT isTry; rw [decide_eq_false h2]; rfl)
    generalize splitB l = sb at *
    generalize splitT l = st at *
    clear h2
    go_enter Tryz.func67, Tryz.ntmps67
    go_wp2_with fail
    go_ret2
    exact ⟨by rw [HB.out, HT.out]; rfl, HO.grown⟩

theorem splitT_le (l : List UInt8) : 1 ≤ splitT l ∧ splitT l ≤ 9 := by
  unfold splitT
  split
  · rename_i h
    simp only [isTry, Bool.and_eq_true, decide_eq_true_eq] at h
    omega
  · omega
theorem splitB_len (l : List UInt8) : (splitB l).length ≤ l.length := by
  unfold splitB
  split
  · simp
  · exact Nat.le_refl _

set_option maxHeartbeats 8000000 in
set_option maxRecDepth 100000 in
theorem join_any (b : List UInt8) {t : Nat} (h1 : 1 ≤ t) (ht : t ≤ 10) (hb : b.length ≤ 1000000) (w : World) : Calls Tryz.prog 68 #[.string ⟨b.toArray⟩, .int .i64 (t : Int)] w fun e w' => e = .returned (.string ⟨(joinL b t).toArray⟩) ∧ Below w.heap.size w w' := by
  have HO := Own.start w
  by_cases h : t = 1
  · have HJ := Lib.hid (show joinL b t = b by unfold joinL; rw [if_pos h])
    subst h
    go_enter Tryz.func68, Tryz.ntmps68
    go_wp2_with fail
    go_ret
    exact ⟨by rw [HJ.out]; rfl, HO.grown⟩
  · have HJ := Lib.hid (show joinL b t = b ++ [45, UInt8.ofNat (48 + t)] by unfold joinL; rw [if_neg h])
    have hI : ((t : Int) == 1) = false := by rw [beq_eq_false_iff_ne]; omega
    have h58 : 48 + t < 256 := by omega
    have e3 : IntKind.i64.wrap (48 + (t : Int)) = 48 + (t : Int) := by rw [wrap_in (inI_iff.2 (by omega))]
    have e4 : IntKind.u8.wrap (48 + (t : Int)) = 48 + (t : Int) := by rw [IntKind.wrap_u8]; omega
    have c1 : ¬ (9223372036854775807 < b.length + 1) := by omega
    have c2 : ¬ (9223372036854775807 < b.length + 1 + 1) := by omega
    clear h
    go_enter Tryz.func68, Tryz.ntmps68
    go_wp2_with (first | (first | go_big_skip | ((with_reducible apply wpList_loadAll HO); exact rfl; exact rfl; (repeat (with_reducible (first | exact At.head _ | apply At.tail))); infer_instance; exact rfl; exact rfl; (simp only [Act.put, List.setIfInBounds_toArray, List.set_cons_succ, List.set_cons_zero])) | ((with_reducible apply wpList_loadOne HO); exact rfl; exact rfl; (repeat (with_reducible (first | exact At.head _ | apply At.tail))); exact rfl; infer_instance; exact rfl; (simp only [Act.put, List.setIfInBounds_toArray, List.set_cons_succ, List.set_cons_zero]))) | (first | ((with_reducible apply wpList_lit1 HO); exact rfl; infer_instance; infer_instance; exact rfl; exact rfl; exact (by decide); exact rfl; clear HO; intro bb w HO; (simp only [Act.put, List.setIfInBounds_toArray, List.set_cons_succ, List.set_cons_zero])) | ((with_reducible apply wpList_lit1c HO); exact rfl; infer_instance; infer_instance; (first | (simp [Act.eval]; rfl) | exact rfl); exact rfl; exact rfl; clear HO; intro bb w HO; (simp only [Act.put, List.setIfInBounds_toArray, List.set_cons_succ, List.set_cons_zero]))) | ((with_reducible apply wpList_strOne (n := 48 + t) HO); exact rfl; exact rfl; (repeat (with_reducible (first | exact At.head _ | apply At.tail))); (first | omega | (simp; done) | (simp; omega)); exact Tryz.underlying23; exact Tryz.underlying5; exact Tryz.underlying9; (first | omega | decide); exact rfl; (simp only [Act.put, List.setIfInBounds_toArray, List.set_cons_succ, List.set_cons_zero])))
    go_ret
    exact ⟨by rw [HJ.out, UInt8.ofNat_add]; rfl, HO.grown⟩
end Go.Proofs.YtibabfedpdoofaaGreatDoor
namespace Go.Proofs.YtibabfedpdoofaaGreatDoor
open Go.RowKit Go.Own Go.Maps

def findN (ref : List UInt8) : List (OrdS × D6) → Nat → Nat
  | [], _ => 0
  | x :: l, k => if x.1.ref = ref then k + 1 else findN ref l (k + 1)
def findL (L : List (OrdS × D6)) (ref : List UInt8) : Nat := findN ref L 0
theorem findN_step {L : List (OrdS × D6)} {ref : List UInt8} {j : Nat} (h : j < L.length) : findN ref (L.drop j) j = if L[j].1.ref = ref then j + 1 else findN ref (L.drop (j + 1)) (j + 1) := by
  rw [List.drop_eq_getElem_cons h]
  rfl
theorem findN_le (ref : List UInt8) : ∀ (l : List (OrdS × D6)) (k : Nat), findN ref l k ≤ k + l.length
  | [], k => by simp [findN]
  | x :: l, k => by
    unfold findN
    split
    · simp only [List.length_cons]; omega
    · have := findN_le ref l (k + 1)
      simp only [List.length_cons]
      omega
theorem findL_le (L : List (OrdS × D6)) (ref : List UInt8) : findL L ref ≤ L.length := by
  have := findN_le ref L 0
  unfold findL
  omega

set_option maxHeartbeats 8000000 in
set_option maxRecDepth 100000 in
theorem find_any {w : World} {a : CoA} {S : CoS} {i : InA} {A : InS} (h : CoAt w a S i A) (hl : S.L.length ≤ 60) (ref : List UInt8) : Calls Tryz.prog 69 #[.pointer (some ⟨a.c, 0, none⟩), .string ⟨ref.toArray⟩] w fun e w' => e = .returned (.int .i64 (findL S.L ref : Int)) ∧ Below w.heap.size w w' := by
  have HO := Own.start w
  have OC := Lib.hid (fun w' (hb : Below w.heap.size w w') => coOrders_any (h.below hb))
  have OR := Lib.hid (fun w' (hb : Below w.heap.size w w') (k : Nat) (hk : k < 60) => coOrder_any (h.below hb) (id := (k : Int) + 1) (inI_iff.2 (by omega)))
  have HS := Lib.hid (fun (j : Nat) (hj : j < S.L.length) => findN_step (ref := ref) hj)
  have HY := Lib.hid (fun (j : Nat) (hj : j < S.L.length) => ordAt_yes (L := S.L) (id := (j : Int) + 1) rfl hj)
  generalize hg : findL S.L ref = g0
  have hg0 : findN ref (S.L.drop 0) 0 = g0 := hg
  clear h hg
  go_enter Tryz.func69, Tryz.ntmps69
  go_wp2_with fail
  go_loopw [5] (fun iv wr => ∃ j : Nat, j ≤ S.L.length ∧ iv = .int .i64 ((j : Int) + 1) ∧ findN ref (S.L.drop j) j = g0 ∧ Own w wr []) (fun iv _ => 62 - (intOf iv).toNat)
  case atStart => exact ⟨0, by omega, rfl, hg0, HO⟩
  case round =>
    clear HO hg0
    obtain ⟨j, hj, rfl, hf, HO⟩ := hrel
    by_cases hjl : j < S.L.length
    · have hjI : (j : Int) + 1 ≤ (S.L.length : Int) := by omega
      have hst := HS.out j hjl
      have ORj := fun w' hb => OR.out w' hb j (by omega)
      rw [HY.out j hjl] at ORj
      rw [hf] at hst
      clear HS HY OR hf
      generalize S.L[j] = y at *
      obtain ⟨o, s⟩ := y
      simp only [ordR, sagaV] at ORj
      simp only at hst
      replace hst := Lib.hid hst
      by_cases hz : o.ref = ref
      · rw [if_pos hz] at hst
        obtain rfl := hst.out
        have hD : (o.ref == ref) = true := by simpa using hz
        clear hst hz
        go_wp2_with (first | go_big_skip | (first | go_big_skip | ((with_reducible apply wpList_loadAll HO); exact rfl; exact rfl; (repeat (with_reducible (first | exact At.head _ | apply At.tail))); infer_instance; exact rfl; exact rfl; (simp only [Act.put, List.setIfInBounds_toArray, List.set_cons_succ, List.set_cons_zero])) | ((with_reducible apply wpList_loadOne HO); exact rfl; exact rfl; (repeat (with_reducible (first | exact At.head _ | apply At.tail))); exact rfl; infer_instance; exact rfl; (simp only [Act.put, List.setIfInBounds_toArray, List.set_cons_succ, List.set_cons_zero]))) | ((with_reducible apply wpList_storeAll HO); exact rfl; exact rfl; exact rfl; (repeat (with_reducible (first | exact At.head _ | apply At.tail))); infer_instance; exact rfl; exact rfl; exact rfl; exact rfl; clear HO; intro w HO; (simp only [Act.put])) | (first | ((with_reducible apply wpList_boxAgg _ HO rfl); exact rfl; exact rfl; exact rfl; clear HO; intro b6 w HO; (simp only [Act.put, List.setIfInBounds_toArray, List.set_cons_succ, List.set_cons_zero])) | ((with_reducible apply wpList_allocAgg _ HO rfl); exact rfl; infer_instance; exact rfl; clear HO; intro b6 w HO; (simp only [Act.put, List.setIfInBounds_toArray, List.set_cons_succ, List.set_cons_zero]))) | (go_at_call 15; go_must ((with_reducible refine (OC.out _ HO.grown).mono ?_); rintro e w ⟨rfl, hb⟩; replace HO := HO.call hb; clear hb)) | (go_at_call 36; go_must ((with_reducible refine (ORj _ HO.grown).mono ?_); rintro e w ⟨rfl, hb⟩; replace HO := HO.call hb; clear hb)))
        go_ret
        exact ⟨by first | rfl | (congr 2), HO.grown⟩
      · rw [if_neg hz] at hst
        have hD : (o.ref == ref) = false := by simpa using hz
        clear hz
        go_wp2_with (first | go_big_skip | (first | go_big_skip | ((with_reducible apply wpList_loadAll HO); exact rfl; exact rfl; (repeat (with_reducible (first | exact At.head _ | apply At.tail))); infer_instance; exact rfl; exact rfl; (simp only [Act.put, List.setIfInBounds_toArray, List.set_cons_succ, List.set_cons_zero])) | ((with_reducible apply wpList_loadOne HO); exact rfl; exact rfl; (repeat (with_reducible (first | exact At.head _ | apply At.tail))); exact rfl; infer_instance; exact rfl; (simp only [Act.put, List.setIfInBounds_toArray, List.set_cons_succ, List.set_cons_zero]))) | ((with_reducible apply wpList_storeAll HO); exact rfl; exact rfl; exact rfl; (repeat (with_reducible (first | exact At.head _ | apply At.tail))); infer_instance; exact rfl; exact rfl; exact rfl; exact rfl; clear HO; intro w HO; (simp only [Act.put])) | (first | ((with_reducible apply wpList_boxAgg _ HO rfl); exact rfl; exact rfl; exact rfl; clear HO; intro b6 w HO; (simp only [Act.put, List.setIfInBounds_toArray, List.set_cons_succ, List.set_cons_zero])) | ((with_reducible apply wpList_allocAgg _ HO rfl); exact rfl; infer_instance; exact rfl; clear HO; intro b6 w HO; (simp only [Act.put, List.setIfInBounds_toArray, List.set_cons_succ, List.set_cons_zero]))) | (go_at_call 15; go_must ((with_reducible refine (OC.out _ HO.grown).mono ?_); rintro e w ⟨rfl, hb⟩; replace HO := HO.call hb; clear hb)) | (go_at_call 36; go_must ((with_reducible refine (ORj _ HO.grown).mono ?_); rintro e w ⟨rfl, hb⟩; replace HO := HO.call hb; clear hb)))
        replace HO := HO.tail
        go_roundw
        case rel => exact ⟨j + 1, by omega, by go_num, hst.out.symm, HO⟩
        case measure => simp [intOf] <;> omega
    · obtain rfl : j = S.L.length := by omega
      have hjI : ¬ ((S.L.length : Int) + 1 ≤ (S.L.length : Int)) := by omega
      rw [List.drop_length] at hf
      obtain rfl : 0 = g0 := hf
      clear HS HY OR
      go_wp2_with (first | go_big_skip | (go_at_call 15; go_must ((with_reducible refine (OC.out _ HO.grown).mono ?_); rintro e w ⟨rfl, hb⟩; replace HO := HO.call hb; clear hb)))
      go_ret
      exact ⟨rfl, HO.grown⟩

def zeroO : OrdS := ⟨0, [], [], 0, 0⟩
def nextRef (o : OrdS) : List UInt8 := joinL (splitB o.ref) (splitT o.ref + 1)
def nextR (L : List (OrdS × D6)) (id : Int) : OrdS × Int := match ordAt L id with
  | none => (zeroO, 4)
  | some x => if stateOf x.2 ≠ 3 ∧ stateOf x.2 ≠ 4 then (zeroO, 92) else if 9 ≤ splitT x.1.ref ∨ 16 < (nextRef x.1).length then (zeroO, 3) else
    if findL L (nextRef x.1) ≠ 0 then (zeroO, 62) else if 60 < L.length + 1 then (zeroO, 60) else (⟨(L.length : Int) + 1, nextRef x.1, x.1.sku, x.1.qty, x.1.amt⟩, 0)
def refsOk (L : List (OrdS × D6)) : Prop := ∀ x ∈ L, x.1.ref.length ≤ 16
theorem refsOk_of {L : List (OrdS × D6)} (h : ∀ x ∈ L, ordE x.1 = 0) : refsOk L := fun x hx => by
  have := ordCheck_ok (h x hx)
  omega

set_option maxHeartbeats 16000000 in
set_option maxRecDepth 100000 in
theorem next_any {w : World} {a : CoA} {S : CoS} {i : InA} {A : InS} (h : CoAt w a S i A) (hl : S.L.length ≤ 60) (hr : refsOk S.L) {id : Int} (hi : inI id = true) : Calls Tryz.prog 16 #[.pointer (some ⟨a.c, 0, none⟩), .int .i64 id] w fun e w' => e = .returned (.tuple #[ordV (nextR S.L id).1, .int .i64 (nextR S.L id).2]) ∧ Below w.heap.size w w' := by
  have HO := Own.start w
  have OC := fun w' (hb : Below w.heap.size w w') => coOrders_any (h.below hb)
  have OR := fun w' (hb : Below w.heap.size w w') => coOrder_any (h.below hb) hi
  have FD := fun ref w' (hb : Below w.heap.size w w') => find_any (h.below hb) hl ref
  clear h
  rcases hx : ordAt S.L id with _ | y
  · rw [hx] at OR
    simp only [ordR, noSaga] at OR
    rw [show nextR S.L id = (zeroO, 4) by unfold nextR; rw [hx]]
    clear hx
    go_enter Tryz.func16, Tryz.ntmps16
    go_wp2_with (first | go_big_skip | (first | go_big_skip | ((with_reducible apply wpList_loadAll HO); exact rfl; exact rfl; (repeat (with_reducible (first | exact At.head _ | apply At.tail))); infer_instance; exact rfl; exact rfl; (simp only [Act.put, List.setIfInBounds_toArray, List.set_cons_succ, List.set_cons_zero])) | ((with_reducible apply wpList_loadOne HO); exact rfl; exact rfl; (repeat (with_reducible (first | exact At.head _ | apply At.tail))); exact rfl; infer_instance; exact rfl; (simp only [Act.put, List.setIfInBounds_toArray, List.set_cons_succ, List.set_cons_zero]))) | ((with_reducible apply wpList_storeAll HO); exact rfl; exact rfl; exact rfl; (repeat (with_reducible (first | exact At.head _ | apply At.tail))); infer_instance; exact rfl; exact rfl; exact rfl; exact rfl; clear HO; intro w HO; (simp only [Act.put])) | (first | ((with_reducible apply wpList_boxAgg _ HO rfl); exact rfl; exact rfl; exact rfl; clear HO; intro b6 w HO; (simp only [Act.put, List.setIfInBounds_toArray, List.set_cons_succ, List.set_cons_zero])) | ((with_reducible apply wpList_allocAgg _ HO rfl); exact rfl; infer_instance; exact rfl; clear HO; intro b6 w HO; (simp only [Act.put, List.setIfInBounds_toArray, List.set_cons_succ, List.set_cons_zero]))) | (go_at_call 36; go_must ((with_reducible refine (OR _ HO.grown).mono ?_); rintro e w ⟨rfl, hb⟩; replace HO := HO.call hb; clear hb)))
    refine bodyPost_ret (results_box HO rfl rfl (by (repeat (with_reducible (first | exact At.head _ | apply At.tail)))) inferInstance rfl rfl) rfl ?_
    exact ⟨rfl, HO.grown⟩
  obtain ⟨o, s⟩ := y
  have hro : o.ref.length ≤ 16 := by
    obtain ⟨j, hj, _, hy⟩ := ordAt_some hx
    have := hr _ (List.getElem_mem hj)
    rw [← hy] at this
    exact this
  rw [hx] at OR
  simp only [ordR, sagaV] at OR
  have ST := fun w => state_any o s w
  unfold sagaV at ST
  have SP := fun w => split_any o.ref (by unfold maxLen; omega) w
  have ht := splitT_le o.ref
  have hb := splitB_len o.ref
  have JN := fun w => join_any (splitB o.ref) (t := splitT o.ref + 1) (by omega) (by omega) (by omega) w
  have HN := Lib.hid (show nextR S.L id = if stateOf s ≠ 3 ∧ stateOf s ≠ 4 then (zeroO, 92) else if 9 ≤ splitT o.ref ∨ 16 < (nextRef o).length then (zeroO, 3) else if findL S.L (nextRef o) ≠ 0 then (zeroO, 62) else if 60 < S.L.length + 1 then (zeroO, 60) else (⟨(S.L.length : Int) + 1, nextRef o, o.sku, o.qty, o.amt⟩, 0) by unfold nextR; rw [hx]; first | done | rfl)
  have FN := FD (nextRef o)
  change ∀ w, Calls Tryz.prog 68 _ w fun e w' => e = .returned (.string ⟨(nextRef o).toArray⟩) ∧ Below w.heap.size w w' at JN
  have hnl : (nextRef o).length ≤ 20 := by
    unfold nextRef joinL
    split
    · omega
    · simp; omega
  generalize nextR S.L id = nr at *
  generalize nextRef o = nx at *
  generalize stateOf s = ss at *
  generalize splitT o.ref = tt at *
  generalize splitB o.ref = bb at *
  generalize findL S.L nx = fd at *
  have e1 : (((tt + 1 : Nat) : Int)) = (tt : Int) + 1 := by omega
  rw [e1] at JN
  clear hx hr hi FD hro hb e1
  by_cases c1 : ss ≠ 3 ∧ ss ≠ 4
  · rw [if_pos c1] at HN
    obtain rfl := HN.out
    have d1 : (ss != 3) = true := by simpa using c1.1
    have d2 : (ss != 4) = true := by simpa using c1.2
    go_enter Tryz.func16, Tryz.ntmps16
    go_wp2_with (first | go_big_skip | (first | go_big_skip | ((with_reducible apply wpList_loadAll HO); exact rfl; exact rfl; (repeat (with_reducible (first | exact At.head _ | apply At.tail))); infer_instance; exact rfl; exact rfl; (simp only [Act.put, List.setIfInBounds_toArray, List.set_cons_succ, List.set_cons_zero])) | ((with_reducible apply wpList_loadOne HO); exact rfl; exact rfl; (repeat (with_reducible (first | exact At.head _ | apply At.tail))); exact rfl; infer_instance; exact rfl; (simp only [Act.put, List.setIfInBounds_toArray, List.set_cons_succ, List.set_cons_zero]))) | ((with_reducible apply wpList_storeAll HO); exact rfl; exact rfl; exact rfl; (repeat (with_reducible (first | exact At.head _ | apply At.tail))); infer_instance; exact rfl; exact rfl; exact rfl; exact rfl; clear HO; intro w HO; (simp only [Act.put])) | (first | ((with_reducible apply wpList_boxAgg _ HO rfl); exact rfl; exact rfl; exact rfl; clear HO; intro b6 w HO; (simp only [Act.put, List.setIfInBounds_toArray, List.set_cons_succ, List.set_cons_zero])) | ((with_reducible apply wpList_allocAgg _ HO rfl); exact rfl; infer_instance; exact rfl; clear HO; intro b6 w HO; (simp only [Act.put, List.setIfInBounds_toArray, List.set_cons_succ, List.set_cons_zero]))) | (go_at_call 36; go_must ((with_reducible refine (OR _ HO.grown).mono ?_); rintro e w ⟨rfl, hb⟩; replace HO := HO.call hb; clear hb)) | (go_at_call 38; go_must ((with_reducible refine (ST _).mono ?_); rintro e w ⟨rfl, hb⟩; replace HO := HO.call hb; clear hb)))
    refine bodyPost_ret (results_box HO rfl rfl (by (repeat (with_reducible (first | exact At.head _ | apply At.tail)))) inferInstance rfl rfl) rfl ?_
    exact ⟨rfl, HO.grown⟩
  rw [if_neg c1] at HN
  have c1' : ss = 3 ∨ ss = 4 := by omega
  clear c1
  rcases c1' with rfl | rfl
  all_goals
    by_cases c2 : 9 ≤ tt ∨ 16 < nx.length
    · rw [if_pos c2] at HN
      obtain rfl := HN.out
      by_cases c3 : 9 ≤ tt
      · have d3 : decide ((9 : Int) ≤ (tt : Int)) = true := decide_eq_true (by omega)
        clear c2
        go_enter Tryz.func16, Tryz.ntmps16
        go_wp2_with (first | go_big_skip | (first | go_big_skip | ((with_reducible apply wpList_loadAll HO); exact rfl; exact rfl; (repeat (with_reducible (first | exact At.head _ | apply At.tail))); infer_instance; exact rfl; exact rfl; (simp only [Act.put, List.setIfInBounds_toArray, List.set_cons_succ, List.set_cons_zero])) | ((with_reducible apply wpList_loadOne HO); exact rfl; exact rfl; (repeat (with_reducible (first | exact At.head _ | apply At.tail))); exact rfl; infer_instance; exact rfl; (simp only [Act.put, List.setIfInBounds_toArray, List.set_cons_succ, List.set_cons_zero]))) | ((with_reducible apply wpList_storeAll HO); exact rfl; exact rfl; exact rfl; (repeat (with_reducible (first | exact At.head _ | apply At.tail))); infer_instance; exact rfl; exact rfl; exact rfl; exact rfl; clear HO; intro w HO; (simp only [Act.put])) | ((with_reducible apply wpList_storeOne HO); exact rfl; exact rfl; (first | (simp [Act.eval]; rfl) | exact rfl); exact rfl; (repeat (with_reducible (first | exact At.head _ | apply At.tail))); infer_instance; exact (by simp); (simp only [List.set_cons_succ, List.set_cons_zero]; rfl); exact rfl; clear HO; intro w HO; (simp only [Act.put])) | ((with_reducible apply wpList_loadPart HO); exact rfl; exact rfl; (repeat (with_reducible (first | exact At.head _ | apply At.tail))); infer_instance; exact (Nat.le_of_ble_eq_true rfl); (simp only [List.drop_zero, List.take_succ_cons, List.take_zero]; rfl); exact rfl; (simp only [Act.put, List.setIfInBounds_toArray, List.set_cons_succ, List.set_cons_zero])) | (first | ((with_reducible apply wpList_boxAgg _ HO rfl); exact rfl; exact rfl; exact rfl; clear HO; intro b6 w HO; (simp only [Act.put, List.setIfInBounds_toArray, List.set_cons_succ, List.set_cons_zero])) | ((with_reducible apply wpList_allocAgg _ HO rfl); exact rfl; infer_instance; exact rfl; clear HO; intro b6 w HO; (simp only [Act.put, List.setIfInBounds_toArray, List.set_cons_succ, List.set_cons_zero]))) | (go_at_call 36; go_must ((with_reducible refine (OR _ HO.grown).mono ?_); rintro e w ⟨rfl, hb⟩; replace HO := HO.call hb; clear hb)) | (go_at_call 15; go_must ((with_reducible refine (OC _ HO.grown).mono ?_); rintro e w ⟨rfl, hb⟩; replace HO := HO.call hb; clear hb)) | (go_at_call 38; go_must ((with_reducible refine (ST _).mono ?_); rintro e w ⟨rfl, hb⟩; replace HO := HO.call hb; clear hb)) | (go_at_call 67; go_must ((with_reducible refine (SP _).mono ?_); rintro e w ⟨rfl, hb⟩; replace HO := HO.call hb; clear hb)) | (go_at_call 68; go_must ((with_reducible refine (JN _).mono ?_); rintro e w ⟨rfl, hb⟩; replace HO := HO.call hb; clear hb)))
        refine bodyPost_ret (results_box HO rfl rfl (by (repeat (with_reducible (first | exact At.head _ | apply At.tail)))) inferInstance rfl rfl) rfl ?_
        exact ⟨rfl, HO.grown⟩
      · have d3 : decide ((9 : Int) ≤ (tt : Int)) = false := decide_eq_false (by omega)
        have d4 : decide ((16 : Int) < (nx.length : Int)) = true := decide_eq_true (by omega)
        clear c2
        go_enter Tryz.func16, Tryz.ntmps16
        go_wp2_with (first | go_big_skip | (first | go_big_skip | ((with_reducible apply wpList_loadAll HO); exact rfl; exact rfl; (repeat (with_reducible (first | exact At.head _ | apply At.tail))); infer_instance; exact rfl; exact rfl; (simp only [Act.put, List.setIfInBounds_toArray, List.set_cons_succ, List.set_cons_zero])) | ((with_reducible apply wpList_loadOne HO); exact rfl; exact rfl; (repeat (with_reducible (first | exact At.head _ | apply At.tail))); exact rfl; infer_instance; exact rfl; (simp only [Act.put, List.setIfInBounds_toArray, List.set_cons_succ, List.set_cons_zero]))) | ((with_reducible apply wpList_storeAll HO); exact rfl; exact rfl; exact rfl; (repeat (with_reducible (first | exact At.head _ | apply At.tail))); infer_instance; exact rfl; exact rfl; exact rfl; exact rfl; clear HO; intro w HO; (simp only [Act.put])) | ((with_reducible apply wpList_storeOne HO); exact rfl; exact rfl; (first | (simp [Act.eval]; rfl) | exact rfl); exact rfl; (repeat (with_reducible (first | exact At.head _ | apply At.tail))); infer_instance; exact (by simp); (simp only [List.set_cons_succ, List.set_cons_zero]; rfl); exact rfl; clear HO; intro w HO; (simp only [Act.put])) | ((with_reducible apply wpList_loadPart HO); exact rfl; exact rfl; (repeat (with_reducible (first | exact At.head _ | apply At.tail))); infer_instance; exact (Nat.le_of_ble_eq_true rfl); (simp only [List.drop_zero, List.take_succ_cons, List.take_zero]; rfl); exact rfl; (simp only [Act.put, List.setIfInBounds_toArray, List.set_cons_succ, List.set_cons_zero])) | (first | ((with_reducible apply wpList_boxAgg _ HO rfl); exact rfl; exact rfl; exact rfl; clear HO; intro b6 w HO; (simp only [Act.put, List.setIfInBounds_toArray, List.set_cons_succ, List.set_cons_zero])) | ((with_reducible apply wpList_allocAgg _ HO rfl); exact rfl; infer_instance; exact rfl; clear HO; intro b6 w HO; (simp only [Act.put, List.setIfInBounds_toArray, List.set_cons_succ, List.set_cons_zero]))) | (go_at_call 36; go_must ((with_reducible refine (OR _ HO.grown).mono ?_); rintro e w ⟨rfl, hb⟩; replace HO := HO.call hb; clear hb)) | (go_at_call 15; go_must ((with_reducible refine (OC _ HO.grown).mono ?_); rintro e w ⟨rfl, hb⟩; replace HO := HO.call hb; clear hb)) | (go_at_call 38; go_must ((with_reducible refine (ST _).mono ?_); rintro e w ⟨rfl, hb⟩; replace HO := HO.call hb; clear hb)) | (go_at_call 67; go_must ((with_reducible refine (SP _).mono ?_); rintro e w ⟨rfl, hb⟩; replace HO := HO.call hb; clear hb)) | (go_at_call 68; go_must ((with_reducible refine (JN _).mono ?_); rintro e w ⟨rfl, hb⟩; replace HO := HO.call hb; clear hb)))
        refine bodyPost_ret (results_box HO rfl rfl (by (repeat (with_reducible (first | exact At.head _ | apply At.tail)))) inferInstance rfl rfl) rfl ?_
        exact ⟨rfl, HO.grown⟩
    rw [if_neg c2] at HN
    have d3 : decide ((9 : Int) ≤ (tt : Int)) = false := decide_eq_false (by omega)
    have d4 : decide ((16 : Int) < (nx.length : Int)) = false := decide_eq_false (by omega)
    clear c2
    by_cases c5 : fd ≠ 0
    · rw [if_pos c5] at HN
      obtain rfl := HN.out
      have d5 : ((fd : Int) != 0) = true := by rw [bne_iff_ne]; omega
      go_enter Tryz.func16, Tryz.ntmps16
      go_wp2_with (first | go_big_skip | (first | go_big_skip | ((with_reducible apply wpList_loadAll HO); exact rfl; exact rfl; (repeat (with_reducible (first | exact At.head _ | apply At.tail))); infer_instance; exact rfl; exact rfl; (simp only [Act.put, List.setIfInBounds_toArray, List.set_cons_succ, List.set_cons_zero])) | ((with_reducible apply wpList_loadOne HO); exact rfl; exact rfl; (repeat (with_reducible (first | exact At.head _ | apply At.tail))); exact rfl; infer_instance; exact rfl; (simp only [Act.put, List.setIfInBounds_toArray, List.set_cons_succ, List.set_cons_zero]))) | ((with_reducible apply wpList_storeAll HO); exact rfl; exact rfl; exact rfl; (repeat (with_reducible (first | exact At.head _ | apply At.tail))); infer_instance; exact rfl; exact rfl; exact rfl; exact rfl; clear HO; intro w HO; (simp only [Act.put])) | ((with_reducible apply wpList_storeOne HO); exact rfl; exact rfl; (first | (simp [Act.eval]; rfl) | exact rfl); exact rfl; (repeat (with_reducible (first | exact At.head _ | apply At.tail))); infer_instance; exact (by simp); (simp only [List.set_cons_succ, List.set_cons_zero]; rfl); exact rfl; clear HO; intro w HO; (simp only [Act.put])) | ((with_reducible apply wpList_loadPart HO); exact rfl; exact rfl; (repeat (with_reducible (first | exact At.head _ | apply At.tail))); infer_instance; exact (Nat.le_of_ble_eq_true rfl); (simp only [List.drop_zero, List.take_succ_cons, List.take_zero]; rfl); exact rfl; (simp only [Act.put, List.setIfInBounds_toArray, List.set_cons_succ, List.set_cons_zero])) | (first | ((with_reducible apply wpList_boxAgg _ HO rfl); exact rfl; exact rfl; exact rfl; clear HO; intro b6 w HO; (simp only [Act.put, List.setIfInBounds_toArray, List.set_cons_succ, List.set_cons_zero])) | ((with_reducible apply wpList_allocAgg _ HO rfl); exact rfl; infer_instance; exact rfl; clear HO; intro b6 w HO; (simp only [Act.put, List.setIfInBounds_toArray, List.set_cons_succ, List.set_cons_zero]))) | (go_at_call 36; go_must ((with_reducible refine (OR _ HO.grown).mono ?_); rintro e w ⟨rfl, hb⟩; replace HO := HO.call hb; clear hb)) | (go_at_call 15; go_must ((with_reducible refine (OC _ HO.grown).mono ?_); rintro e w ⟨rfl, hb⟩; replace HO := HO.call hb; clear hb)) | (go_at_call 38; go_must ((with_reducible refine (ST _).mono ?_); rintro e w ⟨rfl, hb⟩; replace HO := HO.call hb; clear hb)) | (go_at_call 67; go_must ((with_reducible refine (SP _).mono ?_); rintro e w ⟨rfl, hb⟩; replace HO := HO.call hb; clear hb)) | (go_at_call 68; go_must ((with_reducible refine (JN _).mono ?_); rintro e w ⟨rfl, hb⟩; replace HO := HO.call hb; clear hb)) | (go_at_call 69; go_must ((with_reducible refine (FN _ HO.grown).mono ?_); rintro e w ⟨rfl, hb⟩; replace HO := HO.call hb; clear hb)))
      refine bodyPost_ret (results_box HO rfl rfl (by (repeat (with_reducible (first | exact At.head _ | apply At.tail)))) inferInstance rfl rfl) rfl ?_
      exact ⟨rfl, HO.grown⟩
    rw [if_neg c5] at HN
    obtain rfl : fd = 0 := by omega
    by_cases c6 : 60 < S.L.length + 1
    · rw [if_pos c6] at HN
      obtain rfl := HN.out
      have d6 : (60 : Int) < (S.L.length : Int) + 1 := by omega
      go_enter Tryz.func16, Tryz.ntmps16
      go_wp2_with (first | go_big_skip | (first | go_big_skip | ((with_reducible apply wpList_loadAll HO); exact rfl; exact rfl; (repeat (with_reducible (first | exact At.head _ | apply At.tail))); infer_instance; exact rfl; exact rfl; (simp only [Act.put, List.setIfInBounds_toArray, List.set_cons_succ, List.set_cons_zero])) | ((with_reducible apply wpList_loadOne HO); exact rfl; exact rfl; (repeat (with_reducible (first | exact At.head _ | apply At.tail))); exact rfl; infer_instance; exact rfl; (simp only [Act.put, List.setIfInBounds_toArray, List.set_cons_succ, List.set_cons_zero]))) | ((with_reducible apply wpList_storeAll HO); exact rfl; exact rfl; exact rfl; (repeat (with_reducible (first | exact At.head _ | apply At.tail))); infer_instance; exact rfl; exact rfl; exact rfl; exact rfl; clear HO; intro w HO; (simp only [Act.put])) | ((with_reducible apply wpList_storeOne HO); exact rfl; exact rfl; (first | (simp [Act.eval]; rfl) | exact rfl); exact rfl; (repeat (with_reducible (first | exact At.head _ | apply At.tail))); infer_instance; exact (by simp); (simp only [List.set_cons_succ, List.set_cons_zero]; rfl); exact rfl; clear HO; intro w HO; (simp only [Act.put])) | ((with_reducible apply wpList_loadPart HO); exact rfl; exact rfl; (repeat (with_reducible (first | exact At.head _ | apply At.tail))); infer_instance; exact (Nat.le_of_ble_eq_true rfl); (simp only [List.drop_zero, List.take_succ_cons, List.take_zero]; rfl); exact rfl; (simp only [Act.put, List.setIfInBounds_toArray, List.set_cons_succ, List.set_cons_zero])) | (first | ((with_reducible apply wpList_boxAgg _ HO rfl); exact rfl; exact rfl; exact rfl; clear HO; intro b6 w HO; (simp only [Act.put, List.setIfInBounds_toArray, List.set_cons_succ, List.set_cons_zero])) | ((with_reducible apply wpList_allocAgg _ HO rfl); exact rfl; infer_instance; exact rfl; clear HO; intro b6 w HO; (simp only [Act.put, List.setIfInBounds_toArray, List.set_cons_succ, List.set_cons_zero]))) | (go_at_call 36; go_must ((with_reducible refine (OR _ HO.grown).mono ?_); rintro e w ⟨rfl, hb⟩; replace HO := HO.call hb; clear hb)) | (go_at_call 15; go_must ((with_reducible refine (OC _ HO.grown).mono ?_); rintro e w ⟨rfl, hb⟩; replace HO := HO.call hb; clear hb)) | (go_at_call 38; go_must ((with_reducible refine (ST _).mono ?_); rintro e w ⟨rfl, hb⟩; replace HO := HO.call hb; clear hb)) | (go_at_call 67; go_must ((with_reducible refine (SP _).mono ?_); rintro e w ⟨rfl, hb⟩; replace HO := HO.call hb; clear hb)) | (go_at_call 68; go_must ((with_reducible refine (JN _).mono ?_); rintro e w ⟨rfl, hb⟩; replace HO := HO.call hb; clear hb)) | (go_at_call 69; go_must ((with_reducible refine (FN _ HO.grown).mono ?_); rintro e w ⟨rfl, hb⟩; replace HO := HO.call hb; clear hb)))
      refine bodyPost_ret (results_box HO rfl rfl (by (repeat (with_reducible (first | exact At.head _ | apply At.tail)))) inferInstance rfl rfl) rfl ?_
      exact ⟨rfl, HO.grown⟩
    · rw [if_neg c6] at HN
      obtain rfl := HN.out
      have d6 : ¬ ((60 : Int) < (S.L.length : Int) + 1) := by omega
      go_enter Tryz.func16, Tryz.ntmps16
      go_wp2_with (first | go_big_skip | (first | go_big_skip | ((with_reducible apply wpList_loadAll HO); exact rfl; exact rfl; (repeat (with_reducible (first | exact At.head _ | apply At.tail))); infer_instance; exact rfl; exact rfl; (simp only [Act.put, List.setIfInBounds_toArray, List.set_cons_succ, List.set_cons_zero])) | ((with_reducible apply wpList_loadOne HO); exact rfl; exact rfl; (repeat (with_reducible (first | exact At.head _ | apply At.tail))); exact rfl; infer_instance; exact rfl; (simp only [Act.put, List.setIfInBounds_toArray, List.set_cons_succ, List.set_cons_zero]))) | ((with_reducible apply wpList_storeAll HO); exact rfl; exact rfl; exact rfl; (repeat (with_reducible (first | exact At.head _ | apply At.tail))); infer_instance; exact rfl; exact rfl; exact rfl; exact rfl; clear HO; intro w HO; (simp only [Act.put])) | ((with_reducible apply wpList_storeOne HO); exact rfl; exact rfl; (first | (simp [Act.eval]; rfl) | exact rfl); exact rfl; (repeat (with_reducible (first | exact At.head _ | apply At.tail))); infer_instance; exact (by simp); (simp only [List.set_cons_succ, List.set_cons_zero]; rfl); exact rfl; clear HO; intro w HO; (simp only [Act.put])) | ((with_reducible apply wpList_loadPart HO); exact rfl; exact rfl; (repeat (with_reducible (first | exact At.head _ | apply At.tail))); infer_instance; exact (Nat.le_of_ble_eq_true rfl); (simp only [List.drop_zero, List.take_succ_cons, List.take_zero]; rfl); exact rfl; (simp only [Act.put, List.setIfInBounds_toArray, List.set_cons_succ, List.set_cons_zero])) | (first | ((with_reducible apply wpList_boxAgg _ HO rfl); exact rfl; exact rfl; exact rfl; clear HO; intro b6 w HO; (simp only [Act.put, List.setIfInBounds_toArray, List.set_cons_succ, List.set_cons_zero])) | ((with_reducible apply wpList_allocAgg _ HO rfl); exact rfl; infer_instance; exact rfl; clear HO; intro b6 w HO; (simp only [Act.put, List.setIfInBounds_toArray, List.set_cons_succ, List.set_cons_zero]))) | (go_at_call 36; go_must ((with_reducible refine (OR _ HO.grown).mono ?_); rintro e w ⟨rfl, hb⟩; replace HO := HO.call hb; clear hb)) | (go_at_call 15; go_must ((with_reducible refine (OC _ HO.grown).mono ?_); rintro e w ⟨rfl, hb⟩; replace HO := HO.call hb; clear hb)) | (go_at_call 38; go_must ((with_reducible refine (ST _).mono ?_); rintro e w ⟨rfl, hb⟩; replace HO := HO.call hb; clear hb)) | (go_at_call 67; go_must ((with_reducible refine (SP _).mono ?_); rintro e w ⟨rfl, hb⟩; replace HO := HO.call hb; clear hb)) | (go_at_call 68; go_must ((with_reducible refine (JN _).mono ?_); rintro e w ⟨rfl, hb⟩; replace HO := HO.call hb; clear hb)) | (go_at_call 69; go_must ((with_reducible refine (FN _ HO.grown).mono ?_); rintro e w ⟨rfl, hb⟩; replace HO := HO.call hb; clear hb)))
      refine bodyPost_ret (results_box HO rfl rfl (by (repeat (with_reducible (first | exact At.head _ | apply At.tail)))) inferInstance rfl rfl) rfl ?_
      exact ⟨rfl, HO.grown⟩
end Go.Proofs.YtibabfedpdoofaaGreatDoor
namespace Go.Proofs.YtibabfedpdoofaaGreatDoor
open Go.RowKit Go.Own Go.Maps

theorem isL_cell' {w : World} {k n c : Nat} {q : Addr} {L : List (List Value)} (h : IsL w k (.slice (some q) n c) L) {j : Nat} (hj : j < L.length) : ∀ i u, L[j][i]? = some u → w.cell? ((q.add (j * k)).add i) = some u := by
  obtain ⟨b, cap, hb, _, _, hR⟩ := h.at (by omega)
  cases hb
  exact fun i u hu => hR.c j hj i u hu
def intC (n : Nat) : List Value := [.int .i64 (n : Int)]
theorem intC_len (l : List Nat) : ∀ x ∈ l.map intC, x.length = 1 := fun x hx => by
  obtain ⟨y, _, rfl⟩ := List.mem_map.1 hx
  rfl
def chainN (L : List (OrdS × D6)) (b : List UInt8) : Nat → List Nat
  | 0 => []
  | k + 1 => chainN L b k ++ (if findL L (joinL b (k + 1)) = 0 then [] else [findL L (joinL b (k + 1))])
def chainL (L : List (OrdS × D6)) (id : Int) : List Nat := match ordAt L id with
  | none => []
  | some x => chainN L (splitB x.1.ref) 9
theorem chainN_len (L : List (OrdS × D6)) (b : List UInt8) : ∀ k, (chainN L b k).length ≤ k
  | 0 => by simp [chainN]
  | k + 1 => by
    have := chainN_len L b k
    unfold chainN
    rw [List.length_append]
    split <;> simp <;> omega
theorem chainN_in (L : List (OrdS × D6)) (b : List UInt8) : ∀ k, ∀ n ∈ chainN L b k, 1 ≤ n ∧ n ≤ L.length
  | 0, n, h => by cases h
  | k + 1, n, h => by
    unfold chainN at h
    rcases List.mem_append.1 h with h | h
    · exact chainN_in L b k n h
    · split at h
      · cases h
      · obtain rfl := List.mem_singleton.1 h
        have := findL_le L (joinL b (k + 1))
        omega
theorem chainL_in {L : List (OrdS × D6)} {id : Int} : (chainL L id).length ≤ 9 ∧ ∀ n ∈ chainL L id, 1 ≤ n ∧ n ≤ L.length := by
  unfold chainL
  split
  · exact ⟨by simp, by simp⟩
  · exact ⟨chainN_len _ _ _, chainN_in _ _ _⟩

set_option maxHeartbeats 16000000 in
set_option maxRecDepth 100000 in
theorem chain_any {W : World} {a : CoA} {S : CoS} {i : InA} {A : InS} (h : CoAt W a S i A) (hl : S.L.length ≤ 60) (hr : refsOk S.L) {id : Int} (hi : inI id = true) : Calls Tryz.prog 21 #[.pointer (some ⟨a.c, 0, none⟩), .int .i64 id] W fun e w' => ∃ v, e = .returned v ∧ Own W w' [row 3 1 v ((chainL S.L id).map intC)] := by
  have HO := Own.start W
  have OR := fun w' (hb : Below W.heap.size W w') => coOrder_any (h.below hb) hi
  have FD := Lib.hid (fun ref w' (hb : Below W.heap.size W w') => find_any (h.below hb) hl ref)
  clear h
  rcases hx : ordAt S.L id with _ | y
  · rw [hx] at OR
    simp only [ordR, noSaga] at OR
    rw [show chainL S.L id = [] by unfold chainL; rw [hx]]
    clear hx
    go_enter Tryz.func21, Tryz.ntmps21
    go_wp2_with (first | go_big_skip | (first | go_big_skip | ((with_reducible apply wpList_loadAll HO); exact rfl; exact rfl; (repeat (with_reducible (first | exact At.head _ | apply At.tail))); infer_instance; exact rfl; exact rfl; (simp only [Act.put, List.setIfInBounds_toArray, List.set_cons_succ, List.set_cons_zero])) | ((with_reducible apply wpList_loadOne HO); exact rfl; exact rfl; (repeat (with_reducible (first | exact At.head _ | apply At.tail))); exact rfl; infer_instance; exact rfl; (simp only [Act.put, List.setIfInBounds_toArray, List.set_cons_succ, List.set_cons_zero]))) | ((with_reducible apply wpList_storeAll HO); exact rfl; exact rfl; exact rfl; (repeat (with_reducible (first | exact At.head _ | apply At.tail))); infer_instance; exact rfl; exact rfl; exact rfl; exact rfl; clear HO; intro w HO; (simp only [Act.put])) | (first | ((with_reducible apply wpList_boxAgg _ HO rfl); exact rfl; exact rfl; exact rfl; clear HO; intro b6 w HO; (simp only [Act.put, List.setIfInBounds_toArray, List.set_cons_succ, List.set_cons_zero])) | ((with_reducible apply wpList_allocAgg _ HO rfl); exact rfl; infer_instance; exact rfl; clear HO; intro b6 w HO; (simp only [Act.put, List.setIfInBounds_toArray, List.set_cons_succ, List.set_cons_zero]))) | (go_at_call 36; go_must ((with_reducible refine (OR _ HO.grown).mono ?_); rintro e w ⟨rfl, hb⟩; replace HO := HO.call hb; clear hb)))
    go_ret
    exact ⟨_, rfl, HO.tail.nil 3 1⟩
  obtain ⟨o, s⟩ := y
  have hro : o.ref.length ≤ 16 := by
    obtain ⟨j, hj, _, hy⟩ := ordAt_some hx
    have := hr _ (List.getElem_mem hj)
    rw [← hy] at this
    exact this
  rw [hx] at OR
  simp only [ordR, sagaV] at OR
  have SP := fun w => split_any o.ref (by unfold maxLen; omega) w
  have hb := splitB_len o.ref
  have JN := Lib.hid (fun (k : Nat) (hk : k < 9) w => (show Calls Tryz.prog 68 #[.string ⟨(splitB o.ref).toArray⟩, .int .i64 ((k : Int) + 1)] w fun e w' => e = .returned (.string ⟨(joinL (splitB o.ref) (k + 1)).toArray⟩) ∧ Below w.heap.size w w' from join_any (splitB o.ref) (t := k + 1) (by omega) (by omega) (by omega) w))
  rw [show chainL S.L id = chainN S.L (splitB o.ref) 9 by unfold chainL; rw [hx]; first | done | rfl]
  have HC := Lib.hid (fun k => show chainN S.L (splitB o.ref) (k + 1) = chainN S.L (splitB o.ref) k ++ (if findL S.L (joinL (splitB o.ref) (k + 1)) = 0 then [] else [findL S.L (joinL (splitB o.ref) (k + 1))]) from rfl)
  have HLn := Lib.hid (chainN_len S.L (splitB o.ref))
  generalize splitB o.ref = bb at *
  clear hx hr hi hro hb
  go_enter Tryz.func21, Tryz.ntmps21
  go_wp2_with (first | go_big_skip | (first | go_big_skip | ((with_reducible apply wpList_loadAll HO); exact rfl; exact rfl; (repeat (with_reducible (first | exact At.head _ | apply At.tail))); infer_instance; exact rfl; exact rfl; (simp only [Act.put, List.setIfInBounds_toArray, List.set_cons_succ, List.set_cons_zero])) | ((with_reducible apply wpList_loadOne HO); exact rfl; exact rfl; (repeat (with_reducible (first | exact At.head _ | apply At.tail))); exact rfl; infer_instance; exact rfl; (simp only [Act.put, List.setIfInBounds_toArray, List.set_cons_succ, List.set_cons_zero]))) | ((with_reducible apply wpList_storeAll HO); exact rfl; exact rfl; exact rfl; (repeat (with_reducible (first | exact At.head _ | apply At.tail))); infer_instance; exact rfl; exact rfl; exact rfl; exact rfl; clear HO; intro w HO; (simp only [Act.put])) | (first | ((with_reducible apply wpList_boxAgg _ HO rfl); exact rfl; exact rfl; exact rfl; clear HO; intro b6 w HO; (simp only [Act.put, List.setIfInBounds_toArray, List.set_cons_succ, List.set_cons_zero])) | ((with_reducible apply wpList_allocAgg _ HO rfl); exact rfl; infer_instance; exact rfl; clear HO; intro b6 w HO; (simp only [Act.put, List.setIfInBounds_toArray, List.set_cons_succ, List.set_cons_zero]))) | (go_at_call 36; go_must ((with_reducible refine (OR _ HO.grown).mono ?_); rintro e w ⟨rfl, hb⟩; replace HO := HO.call hb; clear hb)) | (go_at_call 67; go_must ((with_reducible refine (SP _).mono ?_); rintro e w ⟨rfl, hb⟩; replace HO := HO.call hb; clear hb)))
  replace HO := HO.tail.nil 3 1
  go_loopw [9, 10] (fun vl tv wr => ∃ k : Nat, k ≤ 9 ∧ tv = .int .i64 ((k : Int) + 1) ∧ Own W wr [row 3 1 vl ((chainN S.L bb k).map intC)]) (fun _ tv _ => 12 - (intOf tv).toNat)
  case atStart => exact ⟨0, by omega, rfl, HO⟩
  case round =>
    clear HO
    obtain ⟨k, hk, rfl, HO⟩ := hrel
    by_cases hk9 : k < 9
    · have hkI : (k : Int) + 1 ≤ 9 := by omega
      have JNk := fun w => JN.out k hk9 w
      have FDk := fun w hb => FD.out (joinL bb (k + 1)) w hb
      have HCk := HC.out k
      have hln := HLn.out k
      generalize hnx : chainN S.L bb (k + 1) = nx at *
      generalize chainN S.L bb k = ol at *
      generalize findL S.L (joinL bb (k + 1)) = fd at *
      generalize joinL bb (k + 1) = rf at *
      by_cases h0 : fd = 0
      · subst h0
        rw [if_pos rfl, List.append_nil] at HCk
        subst HCk
        replace hnx := Lib.hid hnx
        go_wp2_with (first | go_big_skip | (first | go_big_skip | ((with_reducible apply wpList_loadAll HO); exact rfl; exact rfl; (repeat (with_reducible (first | exact At.head _ | apply At.tail))); infer_instance; exact rfl; exact rfl; (simp only [Act.put, List.setIfInBounds_toArray, List.set_cons_succ, List.set_cons_zero])) | ((with_reducible apply wpList_loadOne HO); exact rfl; exact rfl; (repeat (with_reducible (first | exact At.head _ | apply At.tail))); exact rfl; infer_instance; exact rfl; (simp only [Act.put, List.setIfInBounds_toArray, List.set_cons_succ, List.set_cons_zero]))) | (go_at_call 68; go_must ((with_reducible refine (JNk _).mono ?_); rintro e w ⟨rfl, hb⟩; replace HO := HO.call hb; clear hb)) | (go_at_call 69; go_must ((with_reducible refine (FDk _ HO.grown).mono ?_); rintro e w ⟨rfl, hb⟩; replace HO := HO.call hb; clear hb)))
        go_roundw
        case rel => exact ⟨k + 1, by omega, by go_num, by rw [hnx.out]; exact HO⟩
        case measure => simp [intOf] <;> omega
      · rw [if_neg h0] at HCk
        have hd : ((fd : Int) != 0) = true := by rw [bne_iff_ne]; omega
        have hll : (ol.map intC).length + 1 ≤ 1000000 := by rw [List.length_map]; omega
        replace HCk := Lib.hid HCk
        replace hnx := Lib.hid hnx
        go_wp2_with (first | go_big_skip | (first | go_big_skip | ((with_reducible apply wpList_loadAll HO); exact rfl; exact rfl; (repeat (with_reducible (first | exact At.head _ | apply At.tail))); infer_instance; exact rfl; exact rfl; (simp only [Act.put, List.setIfInBounds_toArray, List.set_cons_succ, List.set_cons_zero])) | ((with_reducible apply wpList_loadOne HO); exact rfl; exact rfl; (repeat (with_reducible (first | exact At.head _ | apply At.tail))); exact rfl; infer_instance; exact rfl; (simp only [Act.put, List.setIfInBounds_toArray, List.set_cons_succ, List.set_cons_zero]))) | (first | ((with_reducible apply wpList_lit1 HO); exact rfl; infer_instance; infer_instance; exact rfl; exact rfl; exact (by decide); exact rfl; clear HO; intro bl w HO; (simp only [Act.put, List.setIfInBounds_toArray, List.set_cons_succ, List.set_cons_zero])) | ((with_reducible apply wpList_lit1c HO); exact rfl; infer_instance; infer_instance; (first | (simp [Act.eval]; rfl) | exact rfl); exact rfl; exact rfl; clear HO; intro bl w HO; (simp only [Act.put, List.setIfInBounds_toArray, List.set_cons_succ, List.set_cons_zero]))) | ((with_reducible apply wpList_push1 HO); exact rfl; infer_instance; infer_instance; (first | (simp [Act.eval]; rfl) | exact rfl); exact rfl; intro _; (repeat (with_reducible (first | exact At.head _ | apply At.tail))); exact rfl; exact rfl; (first | omega | (simp; omega)); decide; exact rfl; clear HO; intro v2 w HO hv2; (simp only [Act.put, List.setIfInBounds_toArray, List.set_cons_succ, List.set_cons_zero])) | (go_at_call 68; go_must ((with_reducible refine (JNk _).mono ?_); rintro e w ⟨rfl, hb⟩; replace HO := HO.call hb; clear hb)) | (go_at_call 69; go_must ((with_reducible refine (FDk _ HO.grown).mono ?_); rintro e w ⟨rfl, hb⟩; replace HO := HO.call hb; clear hb)))
        go_roundw
        case rel => exact ⟨k + 1, by omega, by go_num, by rw [hnx.out, HCk.out, List.map_append]; exact HO⟩
        case measure => simp [intOf] <;> omega
    · obtain rfl : k = 9 := by omega
      go_wp2_with fail
      go_ret
      exact ⟨_, rfl, HO⟩

end Go.Proofs.YtibabfedpdoofaaGreatDoor
namespace Go.Proofs.YtibabfedpdoofaaGreatDoor
open Go.RowKit Go.Own Go.Maps

def uniqR (L : List (OrdS × D6)) : Prop := (L.map (fun x => x.1.ref)).Nodup
theorem sagAt_refs {L : List (OrdS × D6)} {id : Int} {x : OrdS × D6} {t : D6} (hx : ordAt L id = some x) : (sagAt L id (x.1, t)).map (fun x => x.1.ref) = L.map (fun x => x.1.ref) := by
  obtain ⟨i, hi, rfl, rfl⟩ := ordAt_some hx
  unfold sagAt
  rw [show ((i : Int) + 1 - 1).toNat = i by omega, List.map_set]
  have h2 : i < (L.map (fun x => x.1.ref)).length := by simpa using hi
  have h1 : (L[i].1, t).1.ref = (L.map (fun x => x.1.ref))[i] := by simp
  rw [h1, List.set_getElem_self]
theorem place_uniq {L : List (OrdS × D6)} (h : uniqR L) (o : OrdS) : uniqR (placeL L o) := by
  unfold placeL
  split
  · rename_i hp
    have hh : hasL L o.ref = false := by
      rw [Bool.eq_false_iff]
      intro hh
      unfold placeE at hp
      by_cases hz : ordE o ≠ 0
      · rw [if_pos hz] at hp; exact hz hp
      · rw [if_neg hz, if_pos hh] at hp; cases hp
    unfold uniqR at h ⊢
    rw [List.map_append, List.nodup_append]
    refine ⟨h, by simp, fun a ha b hb => ?_⟩
    obtain rfl : b = o.ref := by simpa using hb
    rintro rfl
    obtain ⟨x, hx, hr⟩ := List.mem_map.1 ha
    have : hasL L o.ref = true := by
      unfold hasL
      rw [List.any_eq_true]
      exact ⟨x, hx, by simpa using hr⟩
    rw [hh] at this
    cases this
  · exact h
theorem uniq_step {S : CoS} {A : InS} (h : uniqR S.L) (x : EntS) : uniqR (applyS S A x).L := by
  unfold applyS
  split
  · exact place_uniq h _
  split
  · show uniqR (stopL S.L x.o)
    unfold stopL
    split
    · exact h
    · rename_i y hy
      split
      · exact h
      · unfold uniqR; rw [sagAt_refs hy]; exact h
  split
  · unfold replyS
    split
    · exact h
    · rename_i y hy
      split
      · exact h
      · show uniqR (sagAt _ _ _)
        unfold uniqR; rw [sagAt_refs hy]; exact h
  split
  · split
    · exact h
    · exact h
  · exact h
theorem coreOf_uniq (l : List EntS) : ∀ j ≤ l.length, uniqR (coreOf (l.take j)).1.L
  | 0, _ => List.nodup_nil
  | j + 1, h => by
    rw [coreOf_snoc l (by omega)]
    exact uniq_step (coreOf_uniq l j (by omega)) _

theorem findN_zero (ref : List UInt8) : ∀ (l : List (OrdS × D6)) (k : Nat), findN ref l k = 0 ↔ hasL l ref = false
  | [], k => by simp [findN, hasL]
  | x :: l, k => by
    have ih := findN_zero ref l (k + 1)
    unfold hasL at ih ⊢
    unfold findN
    split
    · rename_i h; simp [h]
    · rename_i h; simp only [List.any_cons, h, decide_false, Bool.false_or]; exact ih
theorem findL_zero {L : List (OrdS × D6)} {ref : List UInt8} : findL L ref = 0 ↔ hasL L ref = false := findN_zero ref L 0
theorem findN_own : ∀ (l : List (OrdS × D6)) (k j : Nat) (hj : j < l.length), (l.map (fun x => x.1.ref)).Nodup → findN l[j].1.ref l k = k + j + 1
  | x :: l, k, 0, _, _ => by simp [findN]
  | x :: l, k, j + 1, hj, h => by
    have hj' : j < l.length := by simpa using hj
    rw [List.map_cons, List.nodup_cons] at h
    have ih := findN_own l (k + 1) j hj' h.2
    have hne : ¬ x.1.ref = l[j].1.ref := fun e => h.1 (List.mem_map.2 ⟨l[j], List.getElem_mem hj', e.symm⟩)
    simp only [List.getElem_cons_succ]
    unfold findN
    rw [if_neg hne, ih]
    omega
theorem findL_own {L : List (OrdS × D6)} (h : uniqR L) {j : Nat} (hj : j < L.length) : findL L L[j].1.ref = j + 1 := by
  have := findN_own L 0 j hj h
  unfold findL
  omega

theorem try_end {r : List UInt8} (h : isTry r = true) : 2 < r.length ∧ r = r.take (r.length - 2) ++ [45, r.getD (r.length - 1) 0] ∧ 50 ≤ (r.getD (r.length - 1) 0).toNat ∧ (r.getD (r.length - 1) 0).toNat ≤ 57 := by
  unfold isTry at h
  simp only [Bool.and_eq_true, decide_eq_true_eq] at h
  obtain ⟨h1, h2, h3, h4⟩ := h
  obtain ⟨k, hk⟩ : ∃ k, r.length = k + 2 := ⟨r.length - 2, by omega⟩
  have hkl : k < r.length := by omega
  have hkl1 : k + 1 < r.length := by omega
  refine ⟨h1, ?_, h3, h4⟩
  rw [show r.length - 2 = k by omega] at h2 ⊢
  rw [show r.length - 1 = k + 1 by omega]
  have hd : r.drop k = [r[k], r[k + 1]] := by
    rw [List.drop_eq_getElem_cons hkl, List.drop_eq_getElem_cons hkl1, List.drop_eq_nil_of_le (by omega)]
  rw [getD_at hkl] at h2
  rw [getD_at hkl1]
  conv => lhs; rw [← List.take_append_drop k r, hd, h2]
theorem join_split (r : List UInt8) : joinL (splitB r) (splitT r) = r := by
  unfold splitB splitT
  by_cases h : isTry r = true
  · obtain ⟨h1, h2, h3, h4⟩ := try_end h
    rw [if_pos h, if_pos h]
    unfold joinL
    rw [if_neg (by omega), show 48 + ((r.getD (r.length - 1) 0).toNat - 48) = (r.getD (r.length - 1) 0).toNat by omega, UInt8.ofNat_toNat]
    exact h2.symm
  · rw [if_neg h, if_neg h]
    unfold joinL
    rw [if_pos rfl]
theorem splitT_ge (r : List UInt8) : 1 ≤ splitT r := by
  unfold splitT
  by_cases h : isTry r = true
  · obtain ⟨h1, h2, h3, h4⟩ := try_end h
    rw [if_pos h]; omega
  · rw [if_neg h]; omega
theorem chainN_mem (L : List (OrdS × D6)) (b : List UInt8) {k : Nat} (h : findL L (joinL b (k + 1)) ≠ 0) : ∀ n, k < n → findL L (joinL b (k + 1)) ∈ chainN L b n
  | 0, hn => by omega
  | n + 1, hn => by
    unfold chainN
    by_cases hk : k = n
    · subst hk
      rw [if_neg h]
      exact List.mem_append_right _ (List.mem_singleton.2 rfl)
    · exact List.mem_append_left _ (chainN_mem L b h n (by omega))
theorem chain_own {L : List (OrdS × D6)} (h : uniqR L) {j : Nat} (hj : j < L.length) : j + 1 ∈ chainL L ((j : Int) + 1) := by
  unfold chainL
  rw [ordAt_yes rfl hj]
  show j + 1 ∈ chainN L (splitB L[j].1.ref) 9
  have h1 := splitT_ge L[j].1.ref
  have h2 := splitT_le L[j].1.ref
  have hf := findL_own h hj
  have hjs : joinL (splitB L[j].1.ref) (splitT L[j].1.ref - 1 + 1) = L[j].1.ref := by rw [show splitT L[j].1.ref - 1 + 1 = splitT L[j].1.ref by omega]; exact join_split _
  have := chainN_mem L (splitB L[j].1.ref) (k := splitT L[j].1.ref - 1) (by rw [hjs, hf]; omega) 9 (by omega)
  rw [hjs, hf] at this
  exact this

theorem nextR_ok {L : List (OrdS × D6)} {id : Int} (h : (nextR L id).2 = 0) : ∃ x, ordAt L id = some x ∧ (stateOf x.2 = 3 ∨ stateOf x.2 = 4) ∧ (nextR L id).1 = ⟨(L.length : Int) + 1, nextRef x.1, x.1.sku, x.1.qty, x.1.amt⟩ ∧ splitT x.1.ref < 9 ∧ (nextRef x.1).length ≤ 16 ∧ findL L (nextRef x.1) = 0 ∧ L.length < 60 := by
  unfold nextR at h ⊢
  rcases hx : ordAt L id with _ | x
  · rw [hx] at h; cases h
  · rw [hx] at h
    simp only at h ⊢
    by_cases c1 : stateOf x.2 ≠ 3 ∧ stateOf x.2 ≠ 4
    · rw [if_pos c1] at h; cases h
    rw [if_neg c1] at h ⊢
    by_cases c2 : 9 ≤ splitT x.1.ref ∨ 16 < (nextRef x.1).length
    · rw [if_pos c2] at h; cases h
    rw [if_neg c2] at h ⊢
    by_cases c3 : findL L (nextRef x.1) ≠ 0
    · rw [if_pos c3] at h; cases h
    rw [if_neg c3] at h ⊢
    by_cases c4 : 60 < L.length + 1
    · rw [if_pos c4] at h; cases h
    rw [if_neg c4]
    exact ⟨x, rfl, by omega, rfl, by omega, by omega, by omega, by omega⟩
theorem isName_app {a b : List UInt8} : isName (a ++ b) = (isName a && isName b) := by unfold isName; rw [List.all_append]
theorem nextRef_name {o : OrdS} (h : isName o.ref = true) (ht : splitT o.ref < 9) : isName (nextRef o) = true ∧ nextRef o ≠ [] := by
  have h1 := splitT_ge o.ref
  have hb : isName (splitB o.ref) = true := by
    unfold splitB
    split
    · rename_i hy
      have := (try_end hy).2.1
      rw [this, isName_app, Bool.and_eq_true] at h
      exact h.1
    · exact h
  unfold nextRef joinL
  rw [if_neg (by omega), isName_app, hb, Bool.true_and]
  refine ⟨?_, by simp⟩
  generalize splitT o.ref = t at *
  clear hb h
  obtain rfl | rfl | rfl | rfl | rfl | rfl | rfl | rfl : t = 1 ∨ t = 2 ∨ t = 3 ∨ t = 4 ∨ t = 5 ∨ t = 6 ∨ t = 7 ∨ t = 8 := by omega
  all_goals decide
theorem next_places {S : CoS} (hok : ∀ x ∈ S.L, ordE x.1 = 0) {id : Int} (h : (nextR S.L id).2 = 0) : ordE (nextR S.L id).1 = 0 ∧ placeE S.L (nextR S.L id).1 = 0 := by
  obtain ⟨x, hx, hs, ho, ht, hn, hf, hl⟩ := nextR_ok h
  have hxm : x ∈ S.L := by
    obtain ⟨j, hj, _, rfl⟩ := ordAt_some hx
    exact List.getElem_mem hj
  obtain ⟨_, _, q1, q2, a1, a2, r0, s0, r1, s1, rn, sn⟩ := ordCheck_ok (hok x hxm)
  obtain ⟨n1, n2⟩ := nextRef_name rn ht
  have hE : ordE (nextR S.L id).1 = 0 := by
    rw [ho]
    unfold ordE ordCheck
    simp only
    rw [if_neg (by
      intro h
      rcases h with h | h | h | h | h | h | h | h
      · omega
      · omega
      · omega
      · omega
      · omega
      · omega
      · exact n2 h
      · exact s0 h), if_neg (by omega), if_pos ⟨n1, sn⟩]
  refine ⟨hE, ?_⟩
  unfold placeE
  rw [if_neg (by rw [hE]; simp), ho]
  simp only
  rw [if_neg (by rw [findL_zero.1 hf]; simp), if_neg (by omega), if_neg (by omega)]
theorem ordAt_snoc {L : List (OrdS × D6)} {id : Int} {x : OrdS × D6} (h : ordAt L id = some x) (y : OrdS × D6) : ordAt (L ++ [y]) id = some x := by
  obtain ⟨j, hj, rfl, rfl⟩ := ordAt_some h
  rw [ordAt_yes (L := L ++ [y]) rfl (by simp; omega)]
  rw [List.getElem_append_left hj]
theorem next_again {L : List (OrdS × D6)} {id : Int} (h : (nextR L id).2 = 0) (d : D6) : (nextR (L ++ [((nextR L id).1, d)]) id).2 = 62 := by
  obtain ⟨x, hx, hs, ho, ht, hn, hf, hl⟩ := nextR_ok h
  have hx2 := ordAt_snoc hx ((nextR L id).1, d)
  rw [nextR, hx2]
  simp only
  rw [if_neg (by omega), if_neg (by omega), if_pos]
  intro hz
  rw [findL_zero] at hz
  unfold hasL at hz
  rw [List.any_append] at hz
  rw [ho] at hz
  simp at hz
end Go.Proofs.YtibabfedpdoofaaGreatDoor
namespace Go.Proofs.YtibabfedpdoofaaGreatDoor
open Go.RowKit Go.Own Go.Maps

theorem dec_no45 (u : Nat) : (45 : UInt8) ∉ Lib.decDigits u := fun h => by
  have := (dec_digit u 45 h).1
  revert this
  decide
theorem split45 : ∀ {a b c d : List UInt8}, (45 : UInt8) ∉ a → (45 : UInt8) ∉ c → a ++ 45 :: b = c ++ 45 :: d → a = c ∧ b = d
  | [], b, [], d, _, _, h => ⟨rfl, by simpa using h⟩
  | [], b, y :: c, d, _, h2, h => by
    simp only [List.nil_append, List.cons_append, List.cons.injEq] at h
    exact absurd (by rw [← h.1]; exact List.mem_cons_self) h2
  | x :: a, b, [], d, h1, _, h => by
    simp only [List.nil_append, List.cons_append, List.cons.injEq] at h
    exact absurd (by rw [h.1]; exact List.mem_cons_self) h1
  | x :: a, b, y :: c, d, h1, h2, h => by
    simp only [List.cons_append, List.cons.injEq] at h
    obtain ⟨h3, h4⟩ := split45 (fun h => h1 (List.mem_cons_of_mem _ h)) (fun h => h2 (List.mem_cons_of_mem _ h)) h.2
    exact ⟨by rw [h.1, h3], h4⟩
theorem bytes_ext {a b : ByteArray} (h : a = b) : a.data.toList = b.data.toList := by rw [h]
theorem putK_list (o d : Int) : (putK o d).data.toList = Lib.itoa o ++ 45 :: deedL d := by simp [putK]
theorem sidK_list (q o : Int) : (sidK q o).data.toList = 115 :: (Lib.itoa q ++ 45 :: Lib.itoa o) := by simp [sidK]
theorem itoa_nat {o : Int} (h : 0 ≤ o) : Lib.itoa o = Lib.decDigits o.toNat := by
  have := Lib.itoa_nonneg o.toNat
  rwa [Int.toNat_of_nonneg h] at this
theorem deedL_inj {d d' : Int} (h0 : 0 ≤ d) (h5 : d ≤ 5) (h0' : 0 ≤ d') (h5' : d' ≤ 5) (h : deedL d = deedL d') : d = d' := by
  have h1 := deedsF_word h0 h5
  rw [h, deedsF_word h0' h5'] at h1
  simpa using h1.symm
theorem putK_inj {o d o' d' : Int} (h1 : 0 ≤ o) (h1' : 0 ≤ o') (h0 : 0 ≤ d) (h5 : d ≤ 5) (h0' : 0 ≤ d') (h5' : d' ≤ 5) (h : putK o d = putK o' d') : o = o' ∧ d = d' := by
  have h2 := bytes_ext h
  rw [putK_list, putK_list, itoa_nat h1, itoa_nat h1'] at h2
  obtain ⟨h3, h4⟩ := split45 (dec_no45 _) (dec_no45 _) h2
  have := dec_inj h3
  exact ⟨by omega, deedL_inj h0 h5 h0' h5' h4⟩
theorem sidK_inj {q o q' o' : Int} (h1 : 0 ≤ q) (h1' : 0 ≤ q') (h2 : 0 ≤ o) (h2' : 0 ≤ o') (h : sidK q o = sidK q' o') : q = q' ∧ o = o' := by
  have h3 := bytes_ext h
  rw [sidK_list, sidK_list, itoa_nat h1, itoa_nat h1', itoa_nat h2, itoa_nat h2', List.cons.injEq] at h3
  obtain ⟨h4, h5⟩ := split45 (dec_no45 _) (dec_no45 _) h3.2
  have h6 := dec_inj h4
  have h7 := dec_inj h5
  exact ⟨by omega, by omega⟩
theorem put_ne_sid {o d q o' : Int} (h1 : 0 ≤ o) : putK o d ≠ sidK q o' := fun h => by
  have h2 := bytes_ext h
  rw [putK_list, sidK_list, itoa_nat h1] at h2
  rcases hd : Lib.decDigits o.toNat with _ | ⟨x, l⟩
  · exact dec_ne _ hd
  · rw [hd, List.cons_append, List.cons.injEq] at h2
    have := (dec_digit o.toNat x (by rw [hd]; exact List.mem_cons_self)).2
    rw [h2.1] at this
    revert this
    decide
theorem putK_ne (o d : Int) : (putK o d).size ≠ 0 := by
  unfold putK
  rw [ByteArray.size_append, ByteArray.size_append]
  show _ + 1 + _ ≠ 0
  omega
theorem sidK_ne (q o : Int) : (sidK q o).size ≠ 0 := by
  unfold sidK
  rw [ByteArray.size_append, ByteArray.size_append, ByteArray.size_append]
  show 1 + _ + 1 + _ ≠ 0
  omega
/-- A small posting of an id of its own is posted. -/
theorem delta_small {p : Pst} {b : Int} (h : mayPst p = true) (h2 : p.a ≤ b) (hb : 0 ≤ b) (n o : Int) : -b ≤ delta p n o ∧ delta p n o ≤ b := by
  have := mayPst_iff.1 h
  unfold delta
  repeat' split
  all_goals omega
theorem bal_small {b : Int} (hb : 0 ≤ b) (n o : Int) : ∀ {l : List Pst}, (∀ p ∈ l, mayPst p = true ∧ p.a ≤ b) → -(b * (l.length : Int)) ≤ bal l n o ∧ bal l n o ≤ b * (l.length : Int)
  | [], _ => by simp [bal]
  | p :: l, h => by
    have h1 := bal_small hb n o (fun q hq => h q (List.mem_cons_of_mem _ hq))
    have h2 := delta_small (h p List.mem_cons_self).1 (h p List.mem_cons_self).2 hb n o
    simp only [bal, List.length_cons]
    rw [show ((l.length + 1 : Nat) : Int) = (l.length : Int) + 1 by omega, Int.mul_add, Int.mul_one]
    omega
theorem post_new {P : List Pst} {p : Pst} (h : ∀ q ∈ P, mayPst q = true ∧ q.a ≤ 2199023255552) (hl : P.length ≤ 100000) (hm : mayPst p = true) (ha : p.a ≤ 2199023255552) (hn : ∀ q ∈ P, q.id ≠ p.id) : postL P p = P ++ [p] := by
  unfold postL
  rw [if_pos]
  have h1 : findP P p.id = none := by
    unfold findP
    rw [List.find?_eq_none]
    intro q hq
    simpa using hn q hq
  have hx := mayPst_iff.1 hm
  have hb := fun n o => bal_small (b := 2199023255552) (by decide) n o h
  have e : (2199023255552 : Int) * (P.length : Int) ≤ 219902325555200000 := by omega
  rw [hm, h1]
  simp only [fitsPst, Bool.and_eq_true, inI_iff, Option.isNone_none, true_and]
  have b1 := hb p.d 0
  have b2 := hb p.c 0
  have b3 := hb p.d p.o
  have b4 := hb p.c p.o
  omega
end Go.Proofs.YtibabfedpdoofaaGreatDoor
namespace Go.Proofs.YtibabfedpdoofaaGreatDoor
open Go.RowKit Go.Own Go.Maps

/-- The document posts without looking. -/
def rawReply (P : List Pst) (id d by' : Int) : List Pst := if 0 < by' then P ++ [⟨putK id d, id, 1, 0, by'⟩] else if by' < 0 then P ++ [⟨putK id d, id, 3, 1, -by'⟩] else P
def rawReplyS (S : CoS) (id d code : Int) : CoS := match ordAt S.L id with
  | none => S
  | some x => match replyOf x.2 d code with
    | none => S
    | some t => ⟨sagAt S.L id (x.1, t), rawReply S.P id d (netS x.1 t - netS x.1 x.2)⟩
def rawStmt (P : List Pst) (f : Int → Int) (q : Int) : Nat → List Pst
  | 0 => P
  | k + 1 => if f ((k : Int) + 1) = 0 then rawStmt P f q k else rawStmt P f q k ++ [stPst q ((k : Int) + 1) (f ((k : Int) + 1))]
def rawS (S : CoS) (A : InS) (x : EntS) : CoS := if x.k = 1 then { S with L := placeL S.L x.ord } else if x.k = 2 then { S with L := stopL S.L x.o } else if x.k = 3 then rawReplyS S x.o x.d x.c else
  if x.k = 4 then (if accE A x.p x.q x.rs = 0 then { S with P := rawStmt S.P (byI A (A.put x.p x.q x.rs)) x.q 60 } else S) else S

/-! What a saga keeps. -/
theorem onOf_keeps (s : D6) : (s.b ≠ 0 → (onOf s).b = s.b) ∧ (s.e ≠ 0 → (onOf s).e = s.e) ∧ ((onOf s).b = s.b ∨ (onOf s).b = 1) ∧ ((onOf s).e = s.e ∨ (onOf s).e = 1) := by
  unfold onOf
  repeat' split
  all_goals (refine ⟨fun h => ?_, fun h => ?_, ?_, ?_⟩ <;> first | rfl | exact .inl rfl | exact .inr rfl | (exfalso; simp_all; done))
theorem waits_at {s : D6} (h : (waitsOf s).2 = true) : ((waitsOf s).1 = 0 ∧ s.a = 1) ∨ ((waitsOf s).1 = 1 ∧ s.b = 1) ∨ ((waitsOf s).1 = 2 ∧ s.c = 1) ∨ ((waitsOf s).1 = 3 ∧ s.d = 1) ∨ ((waitsOf s).1 = 4 ∧ s.e = 1) ∨ ((waitsOf s).1 = 5 ∧ s.f = 1) := by
  unfold waitsOf at h ⊢
  repeat' split at h
  all_goals simp_all
theorem reply_shape {s t : D6} {d code : Int} (h : replyOf s d code = some t) : (s.b = 2 → t.b = 2) ∧ (s.e = 2 → t.e = 2) ∧ (d ≠ 1 → t.b = 2 → s.b = 2) ∧ (d ≠ 4 → t.e = 2 → s.e = 2) ∧ (d = 1 → s.b = 1) ∧ (d = 4 → s.e = 1) := by
  unfold replyOf at h
  split at h
  · rename_i h1
    obtain ⟨hw, hd, hc⟩ := h1
    obtain rfl := Option.some.inj h
    obtain ⟨k1, k2, k3, k4⟩ := onOf_keeps (setD s d (code + 1))
    have hx := waits_at hw
    rw [hd] at hx
    rcases hx with ⟨rfl, h1⟩ | ⟨rfl, h1⟩ | ⟨rfl, h1⟩ | ⟨rfl, h1⟩ | ⟨rfl, h1⟩ | ⟨rfl, h1⟩ <;> simp only [setD] at k1 k2 k3 k4 ⊢ <;> simp at k1 k2 k3 k4 ⊢ <;> refine ⟨?_, ?_, ?_⟩ <;> intros <;> first | omega | (refine ⟨?_, ?_⟩ <;> intros <;> omega) | (refine ⟨?_, ?_, ?_⟩ <;> intros <;> omega) | skip
  · cases h
theorem stop_shape {s t : D6} (h : stopOf s = some t) : (s.b = 2 → t.b = 2) ∧ (s.e = 2 → t.e = 2) := by
  unfold stopOf at h
  split at h
  · rename_i h1
    have hw : (waitsOf s).2 = true := by
      unfold stateOf at h1
      repeat' split at h1
      all_goals simp_all
    obtain rfl := Option.some.inj h
    obtain ⟨k1, k2, k3, k4⟩ := onOf_keeps { setD s (waitsOf s).1 4 with x := true }
    have hx := waits_at hw
    generalize (waitsOf s).1 = d at *
    rcases hx with ⟨rfl, h1⟩ | ⟨rfl, h1⟩ | ⟨rfl, h1⟩ | ⟨rfl, h1⟩ | ⟨rfl, h1⟩ | ⟨rfl, h1⟩ <;> simp only [setD] at k1 k2 k3 k4 ⊢ <;> simp at k1 k2 k3 k4 ⊢ <;> refine ⟨?_, ?_⟩ <;> intros <;> omega
  · cases h
theorem reply_nets {o : OrdS} {s t : D6} {d code : Int} (h : replyOf s d code = some t) (hn : netS o t - netS o s ≠ 0) : (d = 1 ∧ s.b = 1 ∧ t.b = 2) ∨ (d = 4 ∧ s.e = 1 ∧ t.e = 2) := by
  obtain ⟨h1, h2, h3, h4, h5, h6⟩ := reply_shape h
  by_cases d1 : d = 1
  · subst d1
    have := h5 rfl
    by_cases tb : t.b = 2
    · exact .inl ⟨rfl, this, tb⟩
    · exfalso; apply hn
      unfold netS
      rw [if_neg (fun h => tb h.1), if_neg (fun h => by omega)]; rfl
  · by_cases d4 : d = 4
    · subst d4
      have := h6 rfl
      by_cases te : t.e = 2
      · exact .inr ⟨rfl, this, te⟩
      · exfalso; apply hn
        unfold netS
        have e1 : (t.b = 2 ∧ t.e ≠ 2) ↔ (s.b = 2 ∧ s.e ≠ 2) := ⟨fun h => ⟨h3 (by decide) h.1, by omega⟩, fun h => ⟨h1 h.1, te⟩⟩
        by_cases hc : s.b = 2 ∧ s.e ≠ 2
        · rw [if_pos hc, if_pos (e1.2 hc)]; omega
        · rw [if_neg hc, if_neg (fun h => hc (e1.1 h))]; rfl
    · exfalso; apply hn
      unfold netS
      have e1 : (t.b = 2 ∧ t.e ≠ 2) ↔ (s.b = 2 ∧ s.e ≠ 2) := ⟨fun h => ⟨h3 d1 h.1, fun he => h.2 (h2 he)⟩, fun h => ⟨h1 h.1, fun he => h.2 (h4 d4 he)⟩⟩
      by_cases hc : s.b = 2 ∧ s.e ≠ 2
      · rw [if_pos hc, if_pos (e1.2 hc)]; omega
      · rw [if_neg hc, if_neg (fun h => hc (e1.1 h))]; rfl

/-! What is posted is new. -/
def smallOk (p : Pst) : Prop := mayPst p = true ∧ p.a ≤ 2199023255552
def srcOk (L : List (OrdS × D6)) (q0 : Int) (p : Pst) : Prop :=
  (∃ (j : Nat) (d : Int) (x : OrdS × D6), L[j]? = some x ∧ p.id = putK ((j : Int) + 1) d ∧ ((d = 1 ∧ x.2.b = 2) ∨ (d = 4 ∧ x.2.e = 2))) ∨ (∃ s o : Int, p.id = sidK s o ∧ 0 ≤ s ∧ s ≤ q0 ∧ 0 ≤ o)
structure CoInv (S : CoS) (A : InS) : Prop where
  ok : CoOk S
  inok : InOk A
  q0 : 0 ≤ A.q0
  small : ∀ p ∈ S.P, smallOk p
  src : ∀ p ∈ S.P, srcOk S.L A.q0 p
theorem coInv_new : CoInv ⟨[], []⟩ zeroI := ⟨coNew_ok, zeroI_ok, by decide, by simp, by simp⟩
theorem srcOk.mono {L M : List (OrdS × D6)} {q r : Int} {p : Pst} (h : srcOk L q p) (hq : q ≤ r) (hL : ∀ (j : Nat) x, L[j]? = some x → ∃ y, M[j]? = some y ∧ (x.2.b = 2 → y.2.b = 2) ∧ (x.2.e = 2 → y.2.e = 2)) : srcOk M r p := by
  rcases h with ⟨j, d, x, h1, h2, h3⟩ | ⟨s, o, h1, h2, h3, h4⟩
  · obtain ⟨y, g1, g2, g3⟩ := hL j x h1
    exact .inl ⟨j, d, y, g1, h2, by rcases h3 with ⟨a, b⟩ | ⟨a, b⟩; exact .inl ⟨a, g2 b⟩; exact .inr ⟨a, g3 b⟩⟩
  · exact .inr ⟨s, o, h1, h2, by omega, h4⟩
theorem place_keeps (L : List (OrdS × D6)) (o : OrdS) : ∀ (j : Nat) x, L[j]? = some x → ∃ y, (placeL L o)[j]? = some y ∧ (x.2.b = 2 → y.2.b = 2) ∧ (x.2.e = 2 → y.2.e = 2) := fun j x h => by
  refine ⟨x, ?_, id, id⟩
  unfold placeL
  split
  · rw [List.getElem?_append_left (List.getElem?_eq_some_iff.1 h).1]; exact h
  · exact h
theorem sagAt_keeps {L : List (OrdS × D6)} {id : Int} {x : OrdS × D6} {t : D6} (hx : ordAt L id = some x) (hb : x.2.b = 2 → t.b = 2) (he : x.2.e = 2 → t.e = 2) : ∀ (j : Nat) y, L[j]? = some y → ∃ z, (sagAt L id (x.1, t))[j]? = some z ∧ (y.2.b = 2 → z.2.b = 2) ∧ (y.2.e = 2 → z.2.e = 2) := fun j y h => by
  obtain ⟨i, hi, rfl, rfl⟩ := ordAt_some hx
  unfold sagAt
  rw [show ((i : Int) + 1 - 1).toNat = i by omega]
  by_cases hj : i = j
  · subst hj
    rw [List.getElem?_eq_getElem hi] at h
    obtain rfl := Option.some.inj h
    exact ⟨_, List.getElem?_set_self hi, hb, he⟩
  · exact ⟨y, by rw [List.getElem?_set_ne hj]; exact h, id, id⟩
theorem rawStmt_eq {P : List Pst} {f : Int → Int} {q : Int} (hs : ∀ p ∈ P, smallOk p) (hn : ∀ p ∈ P, ∀ o : Int, 0 ≤ o → p.id ≠ sidK q o) (hq : 0 ≤ q) (hf : ∀ o, -2199023255552 ≤ f o ∧ f o ≤ 2199023255552) (hl : P.length ≤ 99000) :
    ∀ k : Nat, k ≤ 60 → rawStmt P f q k = stmtP P f q k ∧ (∀ p ∈ stmtP P f q k, smallOk p ∧ (p ∈ P ∨ ∃ o : Int, p.id = sidK q o ∧ 0 ≤ o ∧ o ≤ (k : Int))) ∧ (stmtP P f q k).length ≤ P.length + k
  | 0, _ => ⟨rfl, fun p hp => ⟨hs p hp, .inl hp⟩, Nat.le_refl _⟩
  | k + 1, hk => by
    obtain ⟨h1, h2, h3⟩ := rawStmt_eq hs hn hq hf hl k (by omega)
    unfold rawStmt stmtP
    by_cases h0 : f ((k : Int) + 1) = 0
    · rw [if_pos h0, if_pos h0]
      exact ⟨h1, fun p hp => ⟨(h2 p hp).1, by rcases (h2 p hp).2 with h | ⟨o, a, b, c⟩; exact .inl h; exact .inr ⟨o, a, b, by omega⟩⟩, by omega⟩
    · rw [if_neg h0, if_neg h0, h1]
      have hb := hf ((k : Int) + 1)
      have hid : (stPst q ((k : Int) + 1) (f ((k : Int) + 1))).id = sidK q ((k : Int) + 1) := by unfold stPst; split <;> rfl
      have hm : smallOk (stPst q ((k : Int) + 1) (f ((k : Int) + 1))) := by
        unfold stPst
        split
        · exact ⟨mayPst_iff.2 ⟨sidK_ne _ _, by dsimp only; omega, by dsimp only; omega, by dsimp only; omega, by dsimp only; omega, by dsimp only; omega, by dsimp only; omega, by dsimp only; omega⟩, by dsimp only; omega⟩
        · exact ⟨mayPst_iff.2 ⟨sidK_ne _ _, by dsimp only; omega, by dsimp only; omega, by dsimp only; omega, by dsimp only; omega, by dsimp only; omega, by dsimp only; omega, by dsimp only; omega⟩, by dsimp only; omega⟩
      have hnew := post_new (P := stmtP P f q k) (p := stPst q ((k : Int) + 1) (f ((k : Int) + 1))) (fun p hp => (h2 p hp).1) (by omega) hm.1 hm.2 (fun p hp he => by
        rw [hid] at he
        rcases (h2 p hp).2 with h | ⟨o, a, b, c⟩
        · exact hn p h _ (by omega) he
        · rw [a] at he
          have := (sidK_inj hq hq b (by omega) he).2
          omega)
      rw [hnew]
      refine ⟨rfl, fun p hp => ?_, by simp; omega⟩
      rcases List.mem_append.1 hp with hp | hp
      · exact ⟨(h2 p hp).1, by rcases (h2 p hp).2 with h | ⟨o, a, b, c⟩; exact .inl h; exact .inr ⟨o, a, b, by omega⟩⟩
      · obtain rfl := List.mem_singleton.1 hp
        exact ⟨hm, .inr ⟨_, hid, by omega, by omega⟩⟩
theorem stmt_zero {P : List Pst} {f : Int → Int} {q : Int} (hf : ∀ o, f o = 0) : ∀ k : Nat, rawStmt P f q k = P ∧ stmtP P f q k = P
  | 0 => ⟨rfl, rfl⟩
  | k + 1 => by
    unfold rawStmt stmtP
    rw [if_pos (hf _), if_pos (hf _)]
    exact stmt_zero hf k
theorem byI_zero {A : InS} {p q : Int} {rs : List RowS} (hp : p ≠ 0) (o : Int) : byI A (A.put p q rs) o = 0 := by
  have h : ∀ d, partyOf d = 0 → rowOf (A.put p q rs) o d = rowOf A o d := fun d hd => by
    unfold rowOf
    rw [hd]
    have : (A.put p q rs).rows 0 = A.rows 0 := by
      show (A.put p q rs).r0 = A.r0
      unfold InS.put
      rw [if_neg hp]
      split <;> rfl
    rw [this]
  unfold byI netI
  rw [h 1 (by decide), h 4 (by decide)]
  omega
theorem byI_bound {A B : InS} (h : InOk A) (h2 : InOk B) (o : Int) : -2199023255552 ≤ byI A B o ∧ byI A B o ≤ 2199023255552 := by
  have h3 := netI_bound h o
  have h4 := netI_bound h2 o
  unfold byI
  omega

/-- What the document's core comes to is what the program's does. -/
theorem coInv_step {S : CoS} {A : InS} (h : CoInv S A) (hl : S.P.length ≤ 99000) (x : EntS) : rawS S A x = applyS S A x ∧ CoInv (applyS S A x) (applyI A x) := by
  have hok := (applyS_ok (A := A) h.ok x).1
  have hin := applyI_ok h.inok x
  unfold rawS applyS applyI at *
  by_cases k1 : x.k = 1
  · rw [if_pos k1] at hok
    rw [if_neg (by rw [k1]; simp)] at hin
    rw [if_pos k1, if_pos k1, if_neg (by rw [k1]; simp)]
    exact ⟨rfl, hok, hin, h.q0, h.small, fun p hp => (h.src p hp).mono (Int.le_refl _) (place_keeps _ _)⟩
  rw [if_neg k1] at hok
  rw [if_neg k1, if_neg k1]
  by_cases k2 : x.k = 2
  · rw [if_pos k2] at hok
    rw [if_neg (by rw [k2]; simp)] at hin
    rw [if_pos k2, if_pos k2, if_neg (by rw [k2]; simp)]
    refine ⟨rfl, hok, hin, h.q0, h.small, fun p hp => (h.src p hp).mono (Int.le_refl _) ?_⟩
    intro j y hy
    show ∃ z, (stopL S.L x.o)[j]? = some z ∧ _
    unfold stopL
    cases ho : ordAt S.L x.o with
    | none => exact ⟨y, hy, id, id⟩
    | some z =>
      simp only
      cases hs : stopOf z.2 with
      | none => exact ⟨y, hy, id, id⟩
      | some t => exact sagAt_keeps ho (stop_shape hs).1 (stop_shape hs).2 j y hy
  rw [if_neg k2] at hok
  rw [if_neg k2, if_neg k2]
  by_cases k3 : x.k = 3
  · rw [if_pos k3] at hok
    rw [if_neg (by rw [k3]; simp)] at hin
    rw [if_pos k3, if_pos k3, if_neg (by rw [k3]; simp)]
    unfold rawReplyS
    unfold replyS at hok ⊢
    cases ho : ordAt S.L x.o with
    | none => exact ⟨rfl, h⟩
    | some y =>
      rw [ho] at hok
      simp only at hok ⊢
      cases hr : replyOf y.2 x.d x.c with
      | none => exact ⟨rfl, h⟩
      | some t =>
        rw [hr] at hok
        simp only at hok ⊢
        obtain ⟨j, hj, hid, rfl⟩ := ordAt_some ho
        obtain ⟨s1, s2, _⟩ := reply_shape hr
        have hdd := replyOf_deed hr
        have hkeep := sagAt_keeps (t := t) ho s1 s2
        have hnow : (sagAt S.L x.o (S.L[j].1, t))[j]? = some (S.L[j].1, t) := by
          unfold sagAt
          rw [hid, show ((j : Int) + 1 - 1).toNat = j by omega, List.getElem?_set_self hj]
        have b1 := netS_bound (h.ok.ord _ (List.getElem_mem hj)) t
        have b2 := netS_bound (h.ok.ord _ (List.getElem_mem hj)) S.L[j].2
        have hsrc : ∀ p ∈ S.P, srcOk (sagAt S.L x.o (S.L[j].1, t)) A.q0 p := fun p hp => (h.src p hp).mono (Int.le_refl _) hkeep
        by_cases hz : netS S.L[j].1 t - netS S.L[j].1 S.L[j].2 = 0
        · have e1 : ∀ P, rawReply P x.o x.d (netS S.L[j].1 t - netS S.L[j].1 S.L[j].2) = P := fun P => by rw [hz]; rfl
          have e2 : ∀ P, replyP P x.o x.d (netS S.L[j].1 t - netS S.L[j].1 S.L[j].2) = P := fun P => by rw [hz]; rfl
          rw [e2] at hok
          rw [e1, e2]
          exact ⟨rfl, hok, hin, h.q0, h.small, hsrc⟩
        · have hd := reply_nets hr hz
          have hnew : ∀ p ∈ S.P, p.id ≠ putK x.o x.d := fun p hp he => by
            rcases h.src p hp with ⟨i, d, y, g1, g2, g3⟩ | ⟨s, o, g1, _, _, _⟩
            · rw [g2] at he
              obtain ⟨e1, e2⟩ := putK_inj (by omega) (by omega) (by omega) (by omega) hdd.1 hdd.2 he
              have : i = j := by omega
              subst this
              rw [List.getElem?_eq_getElem hj] at g1
              obtain rfl := Option.some.inj g1
              omega
            · rw [g1] at he
              exact put_ne_sid (by omega) he.symm
          have hmk : ∀ (a b c : Int), 0 ≤ a → a ≤ 4 → 0 ≤ b → b ≤ 4 → a ≠ b → 0 ≤ c → c ≤ 1099511627776 → smallOk ⟨putK x.o x.d, x.o, a, b, c⟩ := fun a b c h1 h2 h3 h4 h5 h6 h7 => ⟨mayPst_iff.2 ⟨putK_ne _ _, by dsimp only; omega, h1, h2, h3, h4, h5, h6⟩, by dsimp only; omega⟩
          have hsrc' : ∀ (p : Pst), p.id = putK x.o x.d → srcOk (sagAt S.L x.o (S.L[j].1, t)) A.q0 p := fun p hp => .inl ⟨j, x.d, _, hnow, by rw [hp, hid], by rcases hd with ⟨a, _, c⟩ | ⟨a, _, c⟩; exact .inl ⟨a, c⟩; exact .inr ⟨a, c⟩⟩
          have key : ∀ (p : Pst), p.id = putK x.o x.d → smallOk p → postL S.P p = S.P ++ [p] := fun p hp hs => post_new (fun q hq => h.small q hq) (by omega) hs.1 hs.2 (fun q hq => by rw [hp]; exact hnew q hq)
          have fin : ∀ (p : Pst), p.id = putK x.o x.d → smallOk p → (∀ q ∈ S.P ++ [p], smallOk q) ∧ (∀ q ∈ S.P ++ [p], srcOk (sagAt S.L x.o (S.L[j].1, t)) A.q0 q) := fun p hp hs => by
            refine ⟨fun q hq => ?_, fun q hq => ?_⟩
            · rcases List.mem_append.1 hq with hq | hq
              · exact h.small q hq
              · rw [List.mem_singleton.1 hq]; exact hs
            · rcases List.mem_append.1 hq with hq | hq
              · exact hsrc q hq
              · rw [List.mem_singleton.1 hq]; exact hsrc' p hp
          unfold rawReply
          unfold replyP at hok ⊢
          by_cases c1 : 0 < netS S.L[j].1 t - netS S.L[j].1 S.L[j].2
          · rw [if_pos c1] at hok
            rw [if_pos c1, if_pos c1]
            have hs := hmk 1 0 _ (by decide) (by decide) (by decide) (by decide) (by decide) (Int.le_of_lt c1) (by omega)
            rw [key _ rfl hs] at hok ⊢
            exact ⟨rfl, hok, hin, h.q0, (fin _ rfl hs).1, (fin _ rfl hs).2⟩
          · have c2 : netS S.L[j].1 t - netS S.L[j].1 S.L[j].2 < 0 := by omega
            rw [if_neg c1, if_pos c2] at hok
            rw [if_neg c1, if_pos c2, if_neg c1, if_pos c2]
            have hs := hmk 3 1 (-(netS S.L[j].1 t - netS S.L[j].1 S.L[j].2)) (by decide) (by decide) (by decide) (by decide) (by decide) (by omega) (by omega)
            rw [key _ rfl hs] at hok ⊢
            exact ⟨rfl, hok, hin, h.q0, (fin _ rfl hs).1, (fin _ rfl hs).2⟩
  rw [if_neg k3] at hok
  rw [if_neg k3, if_neg k3]
  by_cases k4 : x.k = 4
  · rw [if_pos k4] at hok
    rw [if_pos k4, if_pos k4]
    by_cases ha : accE A x.p x.q x.rs = 0
    · rw [if_pos ha] at hok
      rw [if_pos ⟨k4, ha⟩] at hin
      rw [if_pos ha, if_pos ha, if_pos ⟨k4, ha⟩]
      obtain ⟨hst, hsq⟩ := accE_ok ha
      obtain ⟨_, _, p0, p2, _, _⟩ := okStmt_ok hst
      by_cases hp : x.p = 0
      · have hq : A.q0 < x.q := by rw [hp] at hsq; exact hsq
        have hz := h.q0
        obtain ⟨h1, h2, _⟩ := rawStmt_eq (q := x.q) (f := byI A (A.put x.p x.q x.rs)) h.small (fun p hp o ho he => by
          rcases h.src p hp with ⟨i, d, y, g1, g2, g3⟩ | ⟨s, o', g1, g2, g3, g4⟩
          · rw [g2] at he
            exact put_ne_sid (by omega) he
          · rw [g1] at he
            have := (sidK_inj g2 (by omega) g4 ho he).1
            omega) (by omega) (byI_bound h.inok hin) hl 60 (Nat.le_refl _)
        rw [h1]
        have hq0 : (A.put x.p x.q x.rs).q0 = x.q := by unfold InS.put; rw [if_pos hp]
        refine ⟨rfl, hok, hin, by omega, fun p hp => (h2 p hp).1, fun p hp => ?_⟩
        rcases (h2 p hp).2 with g | ⟨o, g1, g2, g3⟩
        · exact (h.src p g).mono (by omega) (fun j y hy => ⟨y, hy, id, id⟩)
        · exact .inr ⟨x.q, o, g1, by omega, by omega, g2⟩
      · obtain ⟨e1, e2⟩ := stmt_zero (P := S.P) (f := byI A (A.put x.p x.q x.rs)) (q := x.q) (byI_zero hp) 60
        rw [e2] at hok
        rw [e1, e2]
        have hq0 : (A.put x.p x.q x.rs).q0 = A.q0 := by unfold InS.put; rw [if_neg hp]; split <;> rfl
        exact ⟨rfl, hok, hin, by rw [hq0]; exact h.q0, h.small, by rw [hq0]; exact h.src⟩
    · rw [if_neg ha, if_neg ha, if_neg (fun hh => ha hh.2)]
      exact ⟨rfl, h⟩
  · rw [if_neg k4, if_neg k4, if_neg (fun hh => k4 hh.1)]
    exact ⟨rfl, h⟩
theorem coreOf_inv (l : List EntS) (hl : l.length ≤ 1000) : ∀ j ≤ l.length, CoInv (coreOf (l.take j)).1 (coreOf (l.take j)).2
  | 0, _ => coInv_new
  | j + 1, h => by
    have h1 := coreOf_inv l hl j (by omega)
    rw [coreOf_snoc l (by omega)]
    exact (coInv_step h1 (by have := (coreOf_ok l j (by omega)).2.1; omega) l[j]).2
/-! An order's number is its place. -/
def idsOk (L : List (OrdS × D6)) : Prop := ∀ (j : Nat) x, L[j]? = some x → x.1.id = (j : Int) + 1
theorem place_ids {L : List (OrdS × D6)} (h : idsOk L) (o : OrdS) : idsOk (placeL L o) := fun j x hx => by
  unfold placeL at hx
  split at hx
  · rename_i h0
    have ho : o.id = (L.length : Int) + 1 := by
      unfold placeE at h0
      repeat' split at h0
      all_goals first | (cases h0; done) | omega | skip
      all_goals (rename_i hh; exact Classical.not_not.1 hh)
    by_cases hj : j < L.length
    · rw [List.getElem?_append_left hj] at hx
      exact h j x hx
    · rw [List.getElem?_append_right (by omega)] at hx
      have h1 : j - L.length = 0 := by
        rcases Nat.eq_zero_or_pos (j - L.length) with h2 | h2
        · exact h2
        · rw [List.getElem?_eq_none (by simp; omega)] at hx
          cases hx
      rw [h1] at hx
      obtain rfl : (o, beginD) = x := by simpa using hx
      show o.id = _
      omega
  · exact h j x hx
theorem sagAt_ids {L : List (OrdS × D6)} {id : Int} {x : OrdS × D6} {t : D6} (h : idsOk L) (hx : ordAt L id = some x) : idsOk (sagAt L id (x.1, t)) := fun j y hy => by
  obtain ⟨i, hi, rfl, rfl⟩ := ordAt_some hx
  unfold sagAt at hy
  rw [show ((i : Int) + 1 - 1).toNat = i by omega] at hy
  by_cases hj : i = j
  · subst hj
    rw [List.getElem?_set_self hi] at hy
    obtain rfl := Option.some.inj hy
    exact h i L[i] (List.getElem?_eq_getElem hi)
  · rw [List.getElem?_set_ne hj] at hy
    exact h j y hy
theorem ids_step {S : CoS} {A : InS} (h : idsOk S.L) (x : EntS) : idsOk (applyS S A x).L := by
  unfold applyS
  split
  · exact place_ids h _
  split
  · show idsOk (stopL S.L x.o)
    unfold stopL
    split
    · exact h
    · rename_i y hy
      split
      · exact h
      · exact sagAt_ids h hy
  split
  · unfold replyS
    split
    · exact h
    · rename_i y hy
      split
      · exact h
      · exact sagAt_ids h hy
  split
  · split
    · exact h
    · exact h
  · exact h
theorem coreOf_ids (l : List EntS) : ∀ j ≤ l.length, idsOk (coreOf (l.take j)).1.L
  | 0, _ => fun j x hx => by cases hx
  | j + 1, h => by
    rw [coreOf_snoc l (by omega)]
    exact ids_step (coreOf_ids l j (by omega)) l[j]
end Go.Proofs.YtibabfedpdoofaaGreatDoor
namespace Go.Proofs.YtibabfedpdoofaaGreatDoor
open Go.RowKit Go.Own Go.Maps

set_option maxHeartbeats 4000000 in
set_option maxRecDepth 100000 in
theorem refPut01_any {n : Int} (h0 : 0 ≤ n) (h1 : n ≤ 9223372036854775807) (W : World) : Calls Tryz.prog 115 #[.int .i64 n] W fun e w' => e = .returned (.string ⟨(Lib.itoa n).toArray⟩) ∧ Below W.heap.size W w' := by
  have HO := Own.start W
  obtain ⟨m, rfl⟩ : ∃ m : Nat, n = (m : Int) := ⟨n.toNat, by omega⟩
  have RD := fun w => refDigits_any (n := m) (by omega) w
  have e1 : IntKind.u64.wrap (m : Int) = (m : Int) := by rw [IntKind.wrap_u64]; omega
  have hm : ¬ ((m : Int) < 0) := by omega
  rw [Lib.itoa_nonneg]
  go_enter Tryz.func115, Tryz.ntmps115
  go_wp2_with (first | (go_at_call 145; go_must ((with_reducible refine (RD _).mono ?_); rintro e w ⟨rfl, hb⟩; replace HO := HO.call hb; clear hb)))
  go_ret
  exact ⟨rfl, HO.grown⟩

set_option maxHeartbeats 4000000 in
set_option maxRecDepth 100000 in
theorem refWords_any (W : World) : Calls Tryz.prog 176 #[] W fun e w' => e = .returned (.agg #[.string ⟨#[114, 101, 115, 101, 114, 118, 101]⟩, .string ⟨#[99, 104, 97, 114, 103, 101]⟩, .string ⟨#[115, 104, 105, 112]⟩, .string ⟨#[114, 101, 108, 101, 97, 115, 101]⟩, .string ⟨#[114, 101, 102, 117, 110, 100]⟩, .string ⟨#[118, 111, 105, 100]⟩]) ∧ Below W.heap.size W w' := by
  have HO := Own.start W
  go_enter Tryz.func176, Tryz.ntmps176
  go_wp2_with (first | (first | go_big_skip | ((with_reducible apply wpList_loadAll HO); exact rfl; exact rfl; (repeat (with_reducible (first | exact At.head _ | apply At.tail))); infer_instance; exact rfl; exact rfl; (simp only [Act.put, List.setIfInBounds_toArray, List.set_cons_succ, List.set_cons_zero])) | ((with_reducible apply wpList_loadOne HO); exact rfl; exact rfl; (repeat (with_reducible (first | exact At.head _ | apply At.tail))); exact rfl; infer_instance; exact rfl; (simp only [Act.put, List.setIfInBounds_toArray, List.set_cons_succ, List.set_cons_zero]))) | ((with_reducible apply wpList_storeAll HO); exact rfl; exact rfl; exact rfl; (repeat (with_reducible (first | exact At.head _ | apply At.tail))); infer_instance; exact rfl; exact rfl; exact rfl; exact rfl; clear HO; intro w HO; (simp only [Act.put])) | (first | ((with_reducible apply wpList_boxAgg _ HO rfl); exact rfl; exact rfl; exact rfl; clear HO; intro b1 w HO; (simp only [Act.put, List.setIfInBounds_toArray, List.set_cons_succ, List.set_cons_zero])) | ((with_reducible apply wpList_allocAgg _ HO rfl); exact rfl; infer_instance; exact rfl; clear HO; intro b1 w HO; (simp only [Act.put, List.setIfInBounds_toArray, List.set_cons_zero]))))
  refine bodyPost_ret (results_one HO rfl rfl (by (repeat (with_reducible (first | exact At.head _ | apply At.tail)))) inferInstance rfl) rfl ?_
  exact ⟨rfl, HO.grown⟩

set_option maxHeartbeats 8000000 in
set_option maxRecDepth 100000 in
theorem refWord_any {d : Int} (h0 : 0 ≤ d) (h5 : d ≤ 5) (W : World) : Calls Tryz.prog 162 #[.int .i64 d] W fun e w' => e = .returned (.string ⟨(deedL d).toArray⟩) ∧ Below W.heap.size W w' := by
  have HO := Own.start W
  have hd : d = 0 ∨ d = 1 ∨ d = 2 ∨ d = 3 ∨ d = 4 ∨ d = 5 := by omega
  have WD := fun w => refWords_any w
  rcases hd with rfl | rfl | rfl | rfl | rfl | rfl
  all_goals
    go_enter Tryz.func162, Tryz.ntmps162
    go_wp2_with (first | go_big_skip | (go_at_call 176; go_must ((with_reducible refine (WD _).mono ?_); rintro e w ⟨rfl, hb⟩; replace HO := HO.call hb; clear hb)) | ((with_reducible apply wpList_indexOne (i := 0)); exact rfl; exact rfl; exact rfl; exact Tryz.underlying243; exact (by decide); infer_instance; exact rfl; exact rfl; (simp only [Act.put, List.setIfInBounds_toArray, List.set_cons_succ, List.set_cons_zero])) | ((with_reducible apply wpList_indexOne (i := 1)); exact rfl; exact rfl; exact rfl; exact Tryz.underlying243; exact (by decide); infer_instance; exact rfl; exact rfl; (simp only [Act.put, List.setIfInBounds_toArray, List.set_cons_succ, List.set_cons_zero])) | ((with_reducible apply wpList_indexOne (i := 2)); exact rfl; exact rfl; exact rfl; exact Tryz.underlying243; exact (by decide); infer_instance; exact rfl; exact rfl; (simp only [Act.put, List.setIfInBounds_toArray, List.set_cons_succ, List.set_cons_zero])) | ((with_reducible apply wpList_indexOne (i := 3)); exact rfl; exact rfl; exact rfl; exact Tryz.underlying243; exact (by decide); infer_instance; exact rfl; exact rfl; (simp only [Act.put, List.setIfInBounds_toArray, List.set_cons_succ, List.set_cons_zero])) | ((with_reducible apply wpList_indexOne (i := 4)); exact rfl; exact rfl; exact rfl; exact Tryz.underlying243; exact (by decide); infer_instance; exact rfl; exact rfl; (simp only [Act.put, List.setIfInBounds_toArray, List.set_cons_succ, List.set_cons_zero])) | ((with_reducible apply wpList_indexOne (i := 5)); exact rfl; exact rfl; exact rfl; exact Tryz.underlying243; exact (by decide); infer_instance; exact rfl; exact rfl; (simp only [Act.put, List.setIfInBounds_toArray, List.set_cons_succ, List.set_cons_zero])))
    go_ret
    exact ⟨rfl, HO.grown⟩

set_option maxHeartbeats 8000000 in
set_option maxRecDepth 100000 in
theorem refKeyPut_any {o d : Int} (hk : keyOk o d = true) (W : World) : Calls Tryz.prog 135 #[.agg #[.int .i64 o, .int .i64 d]] W fun e w' => e = .returned (.string (putK o d)) ∧ Below W.heap.size W w' := by
  have HO := Own.start W
  have h1 : 1 ≤ o ∧ o ≤ 60 ∧ 0 ≤ d ∧ d ≤ 5 := by
    simp only [keyOk, isDeed, Bool.and_eq_true, decide_eq_true_eq] at hk
    omega
  have KC := fun w => refKeyCheck_any o d w
  rw [hk] at KC
  have MP := fun w => refPut01_any (n := o) (by omega) (by omega) w
  have WD := fun w => refWord_any h1.2.2.1 h1.2.2.2 w
  have hlen := Lib.itoa_length_le o (by omega) (by omega)
  have s1 : (⟨(Lib.itoa o).toArray⟩ : ByteArray).size ≤ 21 := hlen
  have s2 : (⟨(deedL d).toArray⟩ : ByteArray).size ≤ 7 := by
    show (deedL d).length ≤ 7
    unfold deedL
    repeat' split
    all_goals decide
  have c1 : ¬ (9223372036854775807 < (⟨(Lib.itoa o).toArray⟩ : ByteArray).size + (⟨#[45]⟩ : ByteArray).size) := by
    show ¬ (9223372036854775807 < (⟨(Lib.itoa o).toArray⟩ : ByteArray).size + 1); omega
  have c2 : ¬ (9223372036854775807 < (⟨(Lib.itoa o).toArray⟩ : ByteArray).size + 1) := by omega
  have e1 : ((⟨(Lib.itoa o).toArray⟩ : ByteArray) ++ ⟨#[45]⟩).size = (⟨(Lib.itoa o).toArray⟩ : ByteArray).size + 1 := by rw [ByteArray.size_append]; rfl
  have c3 : ¬ (9223372036854775807 < ((⟨(Lib.itoa o).toArray⟩ : ByteArray) ++ ⟨#[45]⟩).size + (⟨(deedL d).toArray⟩ : ByteArray).size) := by rw [e1]; omega
  have c4 : ¬ (9223372036854775807 < (⟨(Lib.itoa o).toArray⟩ : ByteArray).size + 1 + (⟨(deedL d).toArray⟩ : ByteArray).size) := by omega
  have HP := Lib.hid (show putK o d = (⟨(Lib.itoa o).toArray⟩ : ByteArray) ++ ⟨#[45]⟩ ++ ⟨(deedL d).toArray⟩ from rfl)
  generalize putK o d = y at *
  generalize (⟨(Lib.itoa o).toArray⟩ : ByteArray) = x1 at *
  generalize (⟨(deedL d).toArray⟩ : ByteArray) = x2 at *
  clear hk h1 hlen s1 s2 e1
  go_enter Tryz.func135, Tryz.ntmps135
  go_wp2_with (first | (first | go_big_skip | ((with_reducible apply wpList_loadAll HO); exact rfl; exact rfl; (repeat (with_reducible (first | exact At.head _ | apply At.tail))); infer_instance; exact rfl; exact rfl; (simp only [Act.put, List.setIfInBounds_toArray, List.set_cons_succ, List.set_cons_zero])) | ((with_reducible apply wpList_loadOne HO); exact rfl; exact rfl; (repeat (with_reducible (first | exact At.head _ | apply At.tail))); exact rfl; infer_instance; exact rfl; (simp only [Act.put, List.setIfInBounds_toArray, List.set_cons_succ, List.set_cons_zero]))) | (first | ((with_reducible apply wpList_boxAgg _ HO rfl); exact rfl; exact rfl; exact rfl; clear HO; intro b3 w HO; (simp only [Act.put, List.setIfInBounds_toArray, List.set_cons_succ, List.set_cons_zero])) | ((with_reducible apply wpList_allocAgg _ HO rfl); exact rfl; infer_instance; exact rfl; clear HO; intro b3 w HO; (simp only [Act.put, List.setIfInBounds_toArray, List.set_cons_succ, List.set_cons_zero]))) | (go_at_call 161; go_must ((with_reducible refine (KC _).mono ?_); rintro e w ⟨rfl, hb⟩; replace HO := HO.call hb; clear hb)))
  refine region_own HO (by kernel_rfl) (by kernel_rfl) ?_
  clear HO
  intro F HF
  repeat (first | (first | go_big_quiet_skip | ((with_reducible apply wpQuiet_loadAll HF); exact rfl; exact rfl; (repeat (with_reducible (first | exact At.head _ | apply At.tail))); infer_instance; exact rfl; exact rfl; (simp only [Act.put, List.setIfInBounds_toArray, List.set_cons_succ, List.set_cons_zero])) | ((with_reducible apply wpQuiet_loadOne HF); exact rfl; exact rfl; (repeat (with_reducible (first | exact At.head _ | apply At.tail))); exact rfl; infer_instance; exact rfl; (simp only [Act.put, List.setIfInBounds_toArray, List.set_cons_succ, List.set_cons_zero])) | ((with_reducible apply wpQuiet_loadPart HF); exact rfl; exact rfl; (repeat (with_reducible (first | exact At.head _ | apply At.tail))); infer_instance; exact (Nat.le_of_ble_eq_true rfl); (simp only [List.drop_succ_cons, List.drop_zero, List.take_succ_cons, List.take_zero]; rfl); exact rfl; (simp only [Act.put, List.setIfInBounds_toArray, List.set_cons_succ, List.set_cons_zero]))) | go_big_quiet_step ((first | (go_at_call 115; (with_reducible exact calls_fam HF (MP _))) | (go_at_call 162; (with_reducible exact calls_fam HF (WD _))))))
  refine wpQuiet_nil ?_
  intro x
  have HO := HF.own x
  clear HF
  generalize F x = w at *
  clear x F
  go_wp2_with fail
  go_ret
  exact ⟨by rw [HP.out]; rfl, HO.grown⟩

set_option maxHeartbeats 8000000 in
set_option maxRecDepth 100000 in
theorem digits24_any : ∀ (n : Nat), n < 9223372036854775808 → ∀ W : World, Calls Tryz.prog 91 #[.int .i64 (n : Int)] W fun e w' => e = .returned (.string ⟨(Lib.decDigits n).toArray⟩) ∧ Below W.heap.size W w' := fun n => by
  induction n using Nat.strongRecOn with
  | ind n ih =>
    intro hn W
    have HO := Own.start W
    obtain ⟨k, hk⟩ : ∃ k, k = n % 10 := ⟨_, rfl⟩
    obtain ⟨q, hq⟩ : ∃ q, q = n / 10 := ⟨_, rfl⟩
    have hk10 : k < 10 := by omega
    have hk58 : 48 + k < 256 := by omega
    have e1 : (n : Int).tmod 10 = (k : Int) := by rw [Int.tmod_eq_emod_of_nonneg (by omega), hk]; rfl
    have e2 : (n : Int).tdiv 10 = (q : Int) := by rw [Int.tdiv_eq_ediv_of_nonneg (by omega), hq]; rfl
    have e3 : IntKind.i64.wrap (48 + (k : Int)) = 48 + (k : Int) := by rw [wrap_in (inI_iff.2 (by omega))]
    have e4 : IntKind.u8.wrap (48 + (k : Int)) = 48 + (k : Int) := by rw [IntKind.wrap_u8]; omega
    have e5 : IntKind.i64.wrap (q : Int) = (q : Int) := by rw [wrap_in (inI_iff.2 (by omega))]
    have e6 : IntKind.i64.wrap (k : Int) = (k : Int) := by rw [wrap_in (inI_iff.2 (by omega))]
    by_cases h10 : n < 10
    · have hc : ¬ ((10 : Int) ≤ (n : Int)) := by omega
      have HD := Lib.hid (show Lib.decDigits n = [UInt8.ofNat (48 + k)] by rw [Lib.decDigits, dif_pos h10, hk, Nat.mod_eq_of_lt h10])
      clear ih hq hk e2 e5
      go_enter Tryz.func91, Tryz.ntmps91
      go_wp2_with (first | (first | go_big_skip | ((with_reducible apply wpList_loadAll HO); exact rfl; exact rfl; (repeat (with_reducible (first | exact At.head _ | apply At.tail))); infer_instance; exact rfl; exact rfl; (simp only [Act.put, List.setIfInBounds_toArray, List.set_cons_succ, List.set_cons_zero])) | ((with_reducible apply wpList_loadOne HO); exact rfl; exact rfl; (repeat (with_reducible (first | exact At.head _ | apply At.tail))); exact rfl; infer_instance; exact rfl; (simp only [Act.put, List.setIfInBounds_toArray, List.set_cons_succ, List.set_cons_zero]))) | (first | ((with_reducible apply wpList_lit1 HO); exact rfl; infer_instance; infer_instance; exact rfl; exact rfl; exact (by decide); exact rfl; clear HO; intro bb w HO; (simp only [Act.put, List.setIfInBounds_toArray, List.set_cons_succ, List.set_cons_zero])) | ((with_reducible apply wpList_lit1c HO); exact rfl; infer_instance; infer_instance; (first | (simp [Act.eval]; rfl) | exact rfl); exact rfl; exact rfl; clear HO; intro bb w HO; (simp only [Act.put, List.setIfInBounds_toArray, List.set_cons_succ, List.set_cons_zero]))) | ((with_reducible apply wpList_strOne (n := 48 + k) HO); exact rfl; exact rfl; (repeat (with_reducible (first | exact At.head _ | apply At.tail))); (first | omega | (simp; done) | (simp; omega)); exact Tryz.underlying23; exact Tryz.underlying5; exact Tryz.underlying9; (first | omega | decide); exact rfl; (simp only [Act.put, List.setIfInBounds_toArray, List.set_cons_succ, List.set_cons_zero])))
      go_ret
      exact ⟨by rw [HD.out, UInt8.ofNat_add]; rfl, HO.grown⟩
    · have hc : (10 : Int) ≤ (n : Int) := by omega
      have IH := fun w => ih q (by omega) (by omega) w
      have HD := Lib.hid (show Lib.decDigits n = Lib.decDigits q ++ [UInt8.ofNat (48 + k)] by rw [Lib.decDigits, dif_neg h10, hq, hk])
      have hlen : (Lib.decDigits q).length ≤ 25 := by
        have := Lib.itoa_length_le (q : Int) (by omega) (by omega)
        rw [Lib.itoa_nonneg] at this
        omega
      have c1 : ¬ (9223372036854775807 < (Lib.decDigits q).length + 1) := by omega
      have c2 : ¬ (9223372036854775807 < (⟨(Lib.decDigits q).toArray⟩ : ByteArray).size + (⟨#[UInt8.ofNat (48 + k)]⟩ : ByteArray).size) := by
        show ¬ (9223372036854775807 < (Lib.decDigits q).length + 1); omega
      generalize Lib.decDigits q = dq at *
      clear ih hq hk hlen
      go_enter Tryz.func91, Tryz.ntmps91
      go_wp2_with (first | (first | go_big_skip | ((with_reducible apply wpList_loadAll HO); exact rfl; exact rfl; (repeat (with_reducible (first | exact At.head _ | apply At.tail))); infer_instance; exact rfl; exact rfl; (simp only [Act.put, List.setIfInBounds_toArray, List.set_cons_succ, List.set_cons_zero])) | ((with_reducible apply wpList_loadOne HO); exact rfl; exact rfl; (repeat (with_reducible (first | exact At.head _ | apply At.tail))); exact rfl; infer_instance; exact rfl; (simp only [Act.put, List.setIfInBounds_toArray, List.set_cons_succ, List.set_cons_zero]))) | (first | ((with_reducible apply wpList_lit1 HO); exact rfl; infer_instance; infer_instance; exact rfl; exact rfl; exact (by decide); exact rfl; clear HO; intro bb w HO; (simp only [Act.put, List.setIfInBounds_toArray, List.set_cons_succ, List.set_cons_zero])) | ((with_reducible apply wpList_lit1c HO); exact rfl; infer_instance; infer_instance; (first | (simp [Act.eval]; rfl) | exact rfl); exact rfl; exact rfl; clear HO; intro bb w HO; (simp only [Act.put, List.setIfInBounds_toArray, List.set_cons_succ, List.set_cons_zero]))) | ((with_reducible apply wpList_strOne (n := 48 + k) HO); exact rfl; exact rfl; (repeat (with_reducible (first | exact At.head _ | apply At.tail))); (first | omega | (simp; done) | (simp; omega)); exact Tryz.underlying23; exact Tryz.underlying5; exact Tryz.underlying9; (first | omega | decide); exact rfl; (simp only [Act.put, List.setIfInBounds_toArray, List.set_cons_succ, List.set_cons_zero])) | (go_at_call 91; go_must ((with_reducible refine (IH _).mono ?_); rintro e w ⟨rfl, hb⟩; replace HO := HO.call hb; clear hb)))
      go_ret
      exact ⟨by rw [HD.out, UInt8.ofNat_add]; first | rfl | (congr 3; simp) | simp, HO.grown⟩
end Go.Proofs.YtibabfedpdoofaaGreatDoor

/-
  A reference's base and try, by walking the program's text; conditions: texts that fit memory.
  The order of a reference, the next try, all tries, what they came to, by walking the program's text; conditions: the core is one that entries come to.
  All tries of an order, and what they came to, by walking the program's text; conditions: the core is one that entries come to.
  The document's tries: split, join, find, Next, Chain, Charged, by walking its text; conditions: the core is one that entries come to.
  The document's order of a reference, and all tries, by walking its text; conditions: the core is one that entries come to.
  The document's next try, by walking its text; conditions: the core is one that entries come to.
-/
import Derived.Test.YtibabfedpdoofaaGreatDoorQa1
import Derived.Test.YtibabfedpdoofaaGreatDoorQa7
import Derived.Test.YtibabfedpdoofaaGreatDoorQa8
import Derived.Test.YtibabfedpdoofaaGreatDoorQa10
import Derived.Test.YtibabfedpdoofaaGreatDoorQe1
namespace Go.Proofs.YtibabfedpdoofaaGreatDoor
open Go.RowKit Go.Own Go.Maps

/-- Whether a reference ends in a try. -/
def isTry (l : List UInt8) : Bool := decide (2 < l.length) && (decide (l.getD (l.length - 2) 0 = 45) && (decide (50 ≤ (l.getD (l.length - 1) 0).toNat) && decide ((l.getD (l.length - 1) 0).toNat ≤ 57)))
def splitB (l : List UInt8) : List UInt8 := if isTry l = true then l.take (l.length - 2) else l
def splitT (l : List UInt8) : Nat := if isTry l = true then (l.getD (l.length - 1) 0).toNat - 48 else 1
def joinL (b : List UInt8) (t : Nat) : List UInt8 := if t = 1 then b else b ++ [45, UInt8.ofNat (48 + t)]

theorem getD_at {l : List UInt8} {k : Nat} (h : k < l.length) : l.getD k 0 = l[k] := by simp [List.getD, h]

set_option maxHeartbeats 8000000 in
set_option maxRecDepth 100000 in
theorem split_any (l : List UInt8) (hl : l.length ≤ maxLen) (w : World) : Calls Tryz.prog 67 #[.string ⟨l.toArray⟩] w fun e w' => e = .returned (.tuple #[.string ⟨(splitB l).toArray⟩, .int .i64 (splitT l : Int)]) ∧ Below w.heap.size w w' := by
  have HO := Own.start w
  unfold maxLen at hl
  by_cases h2 : 2 < l.length
  · obtain ⟨k, hk⟩ : ∃ k, l.length = k + 2 := ⟨l.length - 2, by omega⟩
    have hkl : k < l.length := by omega
    have hkl1 : k + 1 < l.length := by omega
    have e1 : IntKind.i64.wrap ((l.length : Int) - 2) = (k : Int) := by rw [wrap_in (inI_iff.2 (by omega))]; omega
    have e2 : IntKind.i64.wrap ((l.length : Int) - 1) = ((k + 1 : Nat) : Int) := by rw [wrap_in (inI_iff.2 (by omega))]; omega
    have hI : (2 : Int) < (l.length : Int) := by omega
    have hkI : (k : Int) < (l.length : Int) := by omega
    have hkI1 : ((k + 1 : Nat) : Int) < (l.length : Int) := by omega
    have HB := Lib.hid (show splitB l = if isTry l = true then l.take k else l by unfold splitB; rw [hk]; rfl)
    have HT := Lib.hid (show splitT l = if isTry l = true then l[k + 1].toNat - 48 else 1 by unfold splitT; rw [hk, show k + 2 - 1 = k + 1 by omega, getD_at hkl1])
    have HY : isTry l = (decide (l[k] = 45) && (decide (50 ≤ l[k + 1].toNat) && decide (l[k + 1].toNat ≤ 57))) := by
      unfold isTry
      rw [hk, show k + 2 - 1 = k + 1 by omega, show k + 2 - 2 = k by omega, getD_at hkl, getD_at hkl1, decide_eq_true (show 2 < k + 2 by omega), Bool.true_and]
    have hlt57 := l[k + 1].toNat_lt
    have hq : (l[k] = 45) ↔ l[k].toNat = 45 := ⟨fun h => by rw [h]; rfl, fun h => UInt8.toNat_inj.1 h⟩
    generalize isTry l = tr at *
    generalize splitB l = sb at *
    generalize splitT l = st at *
    by_cases c1 : l[k].toNat = 45
    · rw [decide_eq_true (hq.2 c1), Bool.true_and] at HY
      have d1 : ((l[k].toNat : Int) == 45) = true := by rw [c1]; rfl
      by_cases c2 : 50 ≤ l[k + 1].toNat
      · rw [decide_eq_true c2, Bool.true_and] at HY
        have d2 : (50 : Int) ≤ (l[k + 1].toNat : Int) := by omega
        by_cases c3 : l[k + 1].toNat ≤ 57
        · rw [decide_eq_true c3] at HY
          have d3 : (l[k + 1].toNat : Int) ≤ 57 := by omega
          subst HY
          rw [if_pos rfl] at HB HT
          clear hq hk c1
          go_enter Tryz.func67, Tryz.ntmps67
          go_upto_region 3 with fail
          refine region_own HO (by kernel_rfl) (by kernel_rfl) ?_
          clear HO
          intro F HF
          repeat (first | (first | go_big_quiet_skip | ((with_reducible apply wpQuiet_loadAll HF); exact rfl; exact rfl; (repeat (with_reducible (first | exact At.head _ | apply At.tail))); infer_instance; exact rfl; exact rfl; (simp only [Act.put, zA, zB, zC])) | ((with_reducible apply wpQuiet_loadOne HF); exact rfl; exact rfl; (repeat (with_reducible (first | exact At.head _ | apply At.tail))); exact rfl; infer_instance; exact rfl; (simp only [Act.put, zA, zB, zC])) | ((with_reducible apply wpQuiet_loadPart HF); exact rfl; exact rfl; (repeat (with_reducible (first | exact At.head _ | apply At.tail))); infer_instance; exact (Nat.le_of_ble_eq_true rfl); (simp only [List.drop_succ_cons, List.drop_zero, List.take_succ_cons, List.take_zero]; rfl); exact rfl; (simp only [Act.put, zA, zB, zC]))) | go_big_quiet_step (fail))
          refine wpQuiet_nil ?_
          intro x
          have HO := HF.own x
          clear HF
          generalize F x = w at *
          clear x F
          go_wp2_with fail
          go_ret2
          exact ⟨by rw [HB.out, HT.out, Int.ofNat_sub (by omega)]; rfl, HO.grown⟩
        · rw [decide_eq_false c3] at HY
          have d3 : ¬ ((l[k + 1].toNat : Int) ≤ 57) := by omega
          subst HY
          rw [if_neg (by decide)] at HB HT
          clear hq hk c1
          go_enter Tryz.func67, Tryz.ntmps67
          go_wp2_with fail
          go_ret2
          exact ⟨by rw [HB.out, HT.out]; rfl, HO.grown⟩
      · rw [decide_eq_false c2, Bool.false_and] at HY
        have d2 : ¬ ((50 : Int) ≤ (l[k + 1].toNat : Int)) := by omega
        subst HY
        rw [if_neg (by decide)] at HB HT
        clear hq hk c1
        go_enter Tryz.func67, Tryz.ntmps67
        go_wp2_with fail
        go_ret2
        exact ⟨by rw [HB.out, HT.out]; rfl, HO.grown⟩
    · rw [decide_eq_false (fun h => c1 (hq.1 h)), Bool.false_and] at HY
      have d1 : ((l[k].toNat : Int) == 45) = false := by rw [beq_eq_false_iff_ne]; omega
      subst HY
      rw [if_neg (by decide)] at HB HT
      clear hq hk c1
      go_enter Tryz.func67, Tryz.ntmps67
      go_wp2_with fail
      go_ret2
      exact ⟨by rw [HB.out, HT.out]; rfl, HO.grown⟩
  · have hI : ¬ ((2 : Int) < (l.length : Int)) := by omega
    have HB := Lib.hid (show splitB l = l by unfold splitB isTry; rw [decide_eq_false h2]; rfl)
    have HT := Lib.hid (show splitT l = 1 by unfold splitT isTry; rw [decide_eq_false h2]; rfl)
    generalize splitB l = sb at *
    generalize splitT l = st at *
    clear h2
    go_enter Tryz.func67, Tryz.ntmps67
    go_wp2_with fail
    go_ret2
    exact ⟨by rw [HB.out, HT.out]; rfl, HO.grown⟩

theorem splitT_le (l : List UInt8) : 1 ≤ splitT l ∧ splitT l ≤ 9 := by
  unfold splitT
  split
  · rename_i h
    simp only [isTry, Bool.and_eq_true, decide_eq_true_eq] at h
    omega
  · omega
theorem splitB_len (l : List UInt8) : (splitB l).length ≤ l.length := by
  unfold splitB
  split
  · simp
  · exact Nat.le_refl _

set_option maxHeartbeats 8000000 in
set_option maxRecDepth 100000 in
theorem join_any (b : List UInt8) {t : Nat} (h1 : 1 ≤ t) (ht : t ≤ 10) (hb : b.length ≤ 1000000) (w : World) : Calls Tryz.prog 68 #[.string ⟨b.toArray⟩, .int .i64 (t : Int)] w fun e w' => e = .returned (.string ⟨(joinL b t).toArray⟩) ∧ Below w.heap.size w w' := by
  have HO := Own.start w
  by_cases h : t = 1
  · have HJ := Lib.hid (show joinL b t = b by unfold joinL; rw [if_pos h])
    subst h
    go_enter Tryz.func68, Tryz.ntmps68
    go_wp2_with fail
    go_ret
    exact ⟨by rw [HJ.out]; rfl, HO.grown⟩
  · have HJ := Lib.hid (show joinL b t = b ++ [45, UInt8.ofNat (48 + t)] by unfold joinL; rw [if_neg h])
    have hI : ((t : Int) == 1) = false := by rw [beq_eq_false_iff_ne]; omega
    have h58 : 48 + t < 256 := by omega
    have e3 : IntKind.i64.wrap (48 + (t : Int)) = 48 + (t : Int) := by rw [wrap_in (inI_iff.2 (by omega))]
    have e4 : IntKind.u8.wrap (48 + (t : Int)) = 48 + (t : Int) := by rw [IntKind.wrap_u8]; omega
    have c1 : ¬ (9223372036854775807 < b.length + 1) := by omega
    have c2 : ¬ (9223372036854775807 < b.length + 1 + 1) := by omega
    clear h
    go_enter Tryz.func68, Tryz.ntmps68
    go_wp2_with (first | (first | go_big_skip | ((with_reducible apply wpList_loadAll HO); exact rfl; exact rfl; (repeat (with_reducible (first | exact At.head _ | apply At.tail))); infer_instance; exact rfl; exact rfl; (simp only [Act.put, zA, zB, zC])) | ((with_reducible apply wpList_loadOne HO); exact rfl; exact rfl; (repeat (with_reducible (first | exact At.head _ | apply At.tail))); exact rfl; infer_instance; exact rfl; (simp only [Act.put, zA, zB, zC]))) | (first | ((with_reducible apply wpList_lit1 HO); exact rfl; infer_instance; infer_instance; exact rfl; exact rfl; exact (by decide); exact rfl; clear HO; intro bb w HO; (simp only [Act.put, zA, zB, zC])) | ((with_reducible apply wpList_lit1c HO); exact rfl; infer_instance; infer_instance; (first | (simp [Act.eval]; rfl) | exact rfl); exact rfl; exact rfl; clear HO; intro bb w HO; (simp only [Act.put, zA, zB, zC]))) | ((with_reducible apply wpList_strOne (n := 48 + t) HO); exact rfl; exact rfl; (repeat (with_reducible (first | exact At.head _ | apply At.tail))); (first | omega | (simp; done) | (simp; omega)); exact Tryz.underlying23; exact Tryz.underlying5; exact Tryz.underlying9; (first | omega | decide); exact rfl; (simp only [Act.put, zA, zB, zC])))
    go_ret
    exact ⟨by rw [HJ.out, UInt8.ofNat_add]; rfl, HO.grown⟩
end Go.Proofs.YtibabfedpdoofaaGreatDoor
namespace Go.Proofs.YtibabfedpdoofaaGreatDoor
open Go.RowKit Go.Own Go.Maps

def findN (ref : List UInt8) : List (OrdS × D6) → Nat → Nat
  | [], _ => 0
  | x :: l, k => if x.1.ref = ref then k + 1 else findN ref l (k + 1)
def findL (L : List (OrdS × D6)) (ref : List UInt8) : Nat := findN ref L 0
theorem findN_step {L : List (OrdS × D6)} {ref : List UInt8} {j : Nat} (h : j < L.length) : findN ref (L.drop j) j = if L[j].1.ref = ref then j + 1 else findN ref (L.drop (j + 1)) (j + 1) := by
  rw [List.drop_eq_getElem_cons h]
  rfl
theorem findN_le (ref : List UInt8) : ∀ (l : List (OrdS × D6)) (k : Nat), findN ref l k ≤ k + l.length
  | [], k => by simp [findN]
  | x :: l, k => by
    unfold findN
    split
    · simp only [List.length_cons]; omega
    · have := findN_le ref l (k + 1)
      simp only [List.length_cons]
      omega
theorem findL_le (L : List (OrdS × D6)) (ref : List UInt8) : findL L ref ≤ L.length := by
  have := findN_le ref L 0
  unfold findL
  omega

set_option maxHeartbeats 8000000 in
set_option maxRecDepth 100000 in
theorem find_any {w : World} {a : CoA} {S : CoS} {i : InA} {A : InS} (h : CoAt w a S i A) (hl : S.L.length ≤ 60) (ref : List UInt8) : Calls Tryz.prog 69 #[.pointer (some ⟨a.c, 0, none⟩), .string ⟨ref.toArray⟩] w fun e w' => e = .returned (.int .i64 (findL S.L ref : Int)) ∧ Below w.heap.size w w' := by
  have HO := Own.start w
  have OC := Lib.hid (fun w' (hb : Below w.heap.size w w') => coOrders_any (h.below hb))
  have OR := Lib.hid (fun w' (hb : Below w.heap.size w w') (k : Nat) (hk : k < 60) => coOrder_any (h.below hb) (id := (k : Int) + 1) (inI_iff.2 (by omega)))
  have HS := Lib.hid (fun (j : Nat) (hj : j < S.L.length) => findN_step (ref := ref) hj)
  have HY := Lib.hid (fun (j : Nat) (hj : j < S.L.length) => ordAt_yes (L := S.L) (id := (j : Int) + 1) rfl hj)
  generalize hg : findL S.L ref = g0
  have hg0 : findN ref (S.L.drop 0) 0 = g0 := hg
  clear h hg
  go_enter Tryz.func69, Tryz.ntmps69
  go_wp2_with fail
  go_loopw [5] (fun iv wr => ∃ j : Nat, j ≤ S.L.length ∧ iv = .int .i64 ((j : Int) + 1) ∧ findN ref (S.L.drop j) j = g0 ∧ Own w wr []) (fun iv _ => 62 - (intOf iv).toNat)
  case atStart => exact ⟨0, by omega, rfl, hg0, HO⟩
  case round =>
    clear HO hg0
    obtain ⟨j, hj, rfl, hf, HO⟩ := hrel
    by_cases hjl : j < S.L.length
    · have hjI : (j : Int) + 1 ≤ (S.L.length : Int) := by omega
      have hst := HS.out j hjl
      have ORj := fun w' hb => OR.out w' hb j (by omega)
      rw [HY.out j hjl] at ORj
      rw [hf] at hst
      clear HS HY OR hf
      generalize S.L[j] = y at *
      obtain ⟨o, s⟩ := y
      simp only [ordR, sagaV] at ORj
      simp only at hst
      replace hst := Lib.hid hst
      by_cases hz : o.ref = ref
      · rw [if_pos hz] at hst
        obtain rfl := hst.out
        have hD : (o.ref == ref) = true := by simpa using hz
        clear hst hz
        go_wp2_with (first | go_big_skip | (first | go_big_skip | ((with_reducible apply wpList_loadAll HO); exact rfl; exact rfl; (repeat (with_reducible (first | exact At.head _ | apply At.tail))); infer_instance; exact rfl; exact rfl; (simp only [Act.put, zA, zB, zC])) | ((with_reducible apply wpList_loadOne HO); exact rfl; exact rfl; (repeat (with_reducible (first | exact At.head _ | apply At.tail))); exact rfl; infer_instance; exact rfl; (simp only [Act.put, zA, zB, zC]))) | ((with_reducible apply wpList_storeAll HO); exact rfl; exact rfl; exact rfl; (repeat (with_reducible (first | exact At.head _ | apply At.tail))); infer_instance; exact rfl; exact rfl; exact rfl; exact rfl; clear HO; intro w HO; (simp only [Act.put])) | (first | ((with_reducible apply wpList_boxAgg _ HO rfl); exact rfl; exact rfl; exact rfl; clear HO; intro b6 w HO; (simp only [Act.put, zA, zB, zC])) | ((with_reducible apply wpList_allocAgg _ HO rfl); exact rfl; infer_instance; exact rfl; clear HO; intro b6 w HO; (simp only [Act.put, zA, zB, zC]))) | (go_at_call 15; go_must ((with_reducible refine (OC.out _ HO.grown).mono ?_); rintro e w ⟨rfl, hb⟩; replace HO := HO.call hb; clear hb)) | (go_at_call 36; go_must ((with_reducible refine (ORj _ HO.grown).mono ?_); rintro e w ⟨rfl, hb⟩; replace HO := HO.call hb; clear hb)))
        go_ret
        exact ⟨by first | rfl | (congr 2), HO.grown⟩
      · rw [if_neg hz] at hst
        have hD : (o.ref == ref) = false := by simpa using hz
        clear hz
        go_wp2_with (first | go_big_skip | (first | go_big_skip | ((with_reducible apply wpList_loadAll HO); exact rfl; exact rfl; (repeat (with_reducible (first | exact At.head _ | apply At.tail))); infer_instance; exact rfl; exact rfl; (simp only [Act.put, zA, zB, zC])) | ((with_reducible apply wpList_loadOne HO); exact rfl; exact rfl; (repeat (with_reducible (first | exact At.head _ | apply At.tail))); exact rfl; infer_instance; exact rfl; (simp only [Act.put, zA, zB, zC]))) | ((with_reducible apply wpList_storeAll HO); exact rfl; exact rfl; exact rfl; (repeat (with_reducible (first | exact At.head _ | apply At.tail))); infer_instance; exact rfl; exact rfl; exact rfl; exact rfl; clear HO; intro w HO; (simp only [Act.put])) | (first | ((with_reducible apply wpList_boxAgg _ HO rfl); exact rfl; exact rfl; exact rfl; clear HO; intro b6 w HO; (simp only [Act.put, zA, zB, zC])) | ((with_reducible apply wpList_allocAgg _ HO rfl); exact rfl; infer_instance; exact rfl; clear HO; intro b6 w HO; (simp only [Act.put, zA, zB, zC]))) | (go_at_call 15; go_must ((with_reducible refine (OC.out _ HO.grown).mono ?_); rintro e w ⟨rfl, hb⟩; replace HO := HO.call hb; clear hb)) | (go_at_call 36; go_must ((with_reducible refine (ORj _ HO.grown).mono ?_); rintro e w ⟨rfl, hb⟩; replace HO := HO.call hb; clear hb)))
        replace HO := HO.tail
        go_roundw
        case rel => exact ⟨j + 1, by omega, by go_num, hst.out.symm, HO⟩
        case measure => simp [intOf] <;> omega
    · obtain rfl : j = S.L.length := by omega
      have hjI : ¬ ((S.L.length : Int) + 1 ≤ (S.L.length : Int)) := by omega
      rw [List.drop_length] at hf
      obtain rfl : 0 = g0 := hf
      clear HS HY OR
      go_wp2_with (first | go_big_skip | (go_at_call 15; go_must ((with_reducible refine (OC.out _ HO.grown).mono ?_); rintro e w ⟨rfl, hb⟩; replace HO := HO.call hb; clear hb)))
      go_ret
      exact ⟨rfl, HO.grown⟩

def zeroO : OrdS := ⟨0, [], [], 0, 0⟩
def nextRef (o : OrdS) : List UInt8 := joinL (splitB o.ref) (splitT o.ref + 1)
def nextR (L : List (OrdS × D6)) (id : Int) : OrdS × Int := match ordAt L id with
  | none => (zeroO, 4)
  | some x => if stateOf x.2 ≠ 3 ∧ stateOf x.2 ≠ 4 then (zeroO, 92) else if 9 ≤ splitT x.1.ref ∨ 16 < (nextRef x.1).length then (zeroO, 3) else
    if findL L (nextRef x.1) ≠ 0 then (zeroO, 62) else if 60 < L.length + 1 then (zeroO, 60) else (⟨(L.length : Int) + 1, nextRef x.1, x.1.sku, x.1.qty, x.1.amt⟩, 0)
def refsOk (L : List (OrdS × D6)) : Prop := ∀ x ∈ L, x.1.ref.length ≤ 16
theorem refsOk_of {L : List (OrdS × D6)} (h : ∀ x ∈ L, ordE x.1 = 0) : refsOk L := fun x hx => by
  have := ordCheck_ok (h x hx)
  omega

set_option maxHeartbeats 16000000 in
set_option maxRecDepth 100000 in
theorem next_any {w : World} {a : CoA} {S : CoS} {i : InA} {A : InS} (h : CoAt w a S i A) (hl : S.L.length ≤ 60) (hr : refsOk S.L) {id : Int} (hi : inI id = true) : Calls Tryz.prog 16 #[.pointer (some ⟨a.c, 0, none⟩), .int .i64 id] w fun e w' => e = .returned (.tuple #[ordV (nextR S.L id).1, .int .i64 (nextR S.L id).2]) ∧ Below w.heap.size w w' := by
  have HO := Own.start w
  have OC := fun w' (hb : Below w.heap.size w w') => coOrders_any (h.below hb)
  have OR := fun w' (hb : Below w.heap.size w w') => coOrder_any (h.below hb) hi
  have FD := fun ref w' (hb : Below w.heap.size w w') => find_any (h.below hb) hl ref
  clear h
  rcases hx : ordAt S.L id with _ | y
  · rw [hx] at OR
    simp only [ordR, noSaga] at OR
    rw [show nextR S.L id = (zeroO, 4) by unfold nextR; rw [hx]]
    clear hx
    go_enter Tryz.func16, Tryz.ntmps16
    go_wp2_with (first | go_big_skip | (first | go_big_skip | ((with_reducible apply wpList_loadAll HO); exact rfl; exact rfl; (repeat (with_reducible (first | exact At.head _ | apply At.tail))); infer_instance; exact rfl; exact rfl; (simp only [Act.put, zA, zB, zC])) | ((with_reducible apply wpList_loadOne HO); exact rfl; exact rfl; (repeat (with_reducible (first | exact At.head _ | apply At.tail))); exact rfl; infer_instance; exact rfl; (simp only [Act.put, zA, zB, zC]))) | ((with_reducible apply wpList_storeAll HO); exact rfl; exact rfl; exact rfl; (repeat (with_reducible (first | exact At.head _ | apply At.tail))); infer_instance; exact rfl; exact rfl; exact rfl; exact rfl; clear HO; intro w HO; (simp only [Act.put])) | (first | ((with_reducible apply wpList_boxAgg _ HO rfl); exact rfl; exact rfl; exact rfl; clear HO; intro b6 w HO; (simp only [Act.put, zA, zB, zC])) | ((with_reducible apply wpList_allocAgg _ HO rfl); exact rfl; infer_instance; exact rfl; clear HO; intro b6 w HO; (simp only [Act.put, zA, zB, zC]))) | (go_at_call 36; go_must ((with_reducible refine (OR _ HO.grown).mono ?_); rintro e w ⟨rfl, hb⟩; replace HO := HO.call hb; clear hb)))
    refine bodyPost_ret (results_box HO rfl rfl (by (repeat (with_reducible (first | exact At.head _ | apply At.tail)))) inferInstance rfl rfl) rfl ?_
    exact ⟨rfl, HO.grown⟩
  obtain ⟨o, s⟩ := y
  have hro : o.ref.length ≤ 16 := by
    obtain ⟨j, hj, _, hy⟩ := ordAt_some hx
    have := hr _ (List.getElem_mem hj)
    rw [← hy] at this
    exact this
  rw [hx] at OR
  simp only [ordR, sagaV] at OR
  have ST := fun w => state_any o s w
  unfold sagaV at ST
  have SP := fun w => split_any o.ref (by unfold maxLen; omega) w
  have ht := splitT_le o.ref
  have hb := splitB_len o.ref
  have JN := fun w => join_any (splitB o.ref) (t := splitT o.ref + 1) (by omega) (by omega) (by omega) w
  have HN := Lib.hid (show nextR S.L id = if stateOf s ≠ 3 ∧ stateOf s ≠ 4 then (zeroO, 92) else if 9 ≤ splitT o.ref ∨ 16 < (nextRef o).length then (zeroO, 3) else if findL S.L (nextRef o) ≠ 0 then (zeroO, 62) else if 60 < S.L.length + 1 then (zeroO, 60) else (⟨(S.L.length : Int) + 1, nextRef o, o.sku, o.qty, o.amt⟩, 0) by unfold nextR; rw [hx]; first | done | rfl)
  have FN := FD (nextRef o)
  change ∀ w, Calls Tryz.prog 68 _ w fun e w' => e = .returned (.string ⟨(nextRef o).toArray⟩) ∧ Below w.heap.size w w' at JN
  have hnl : (nextRef o).length ≤ 20 := by
    unfold nextRef joinL
    split
    · omega
    · simp; omega
  generalize nextR S.L id = nr at *
  generalize nextRef o = nx at *
  generalize stateOf s = ss at *
  generalize splitT o.ref = tt at *
  generalize splitB o.ref = bb at *
  generalize findL S.L nx = fd at *
  have e1 : (((tt + 1 : Nat) : Int)) = (tt : Int) + 1 := by omega
  rw [e1] at JN
  clear hx hr hi FD hro hb e1
  by_cases c1 : ss ≠ 3 ∧ ss ≠ 4
  · rw [if_pos c1] at HN
    obtain rfl := HN.out
    have d1 : (ss != 3) = true := by simpa using c1.1
    have d2 : (ss != 4) = true := by simpa using c1.2
    go_enter Tryz.func16, Tryz.ntmps16
    go_wp2_with (first | go_big_skip | (first | go_big_skip | ((with_reducible apply wpList_loadAll HO); exact rfl; exact rfl; (repeat (with_reducible (first | exact At.head _ | apply At.tail))); infer_instance; exact rfl; exact rfl; (simp only [Act.put, zA, zB, zC])) | ((with_reducible apply wpList_loadOne HO); exact rfl; exact rfl; (repeat (with_reducible (first | exact At.head _ | apply At.tail))); exact rfl; infer_instance; exact rfl; (simp only [Act.put, zA, zB, zC]))) | ((with_reducible apply wpList_storeAll HO); exact rfl; exact rfl; exact rfl; (repeat (with_reducible (first | exact At.head _ | apply At.tail))); infer_instance; exact rfl; exact rfl; exact rfl; exact rfl; clear HO; intro w HO; (simp only [Act.put])) | (first | ((with_reducible apply wpList_boxAgg _ HO rfl); exact rfl; exact rfl; exact rfl; clear HO; intro b6 w HO; (simp only [Act.put, zA, zB, zC])) | ((with_reducible apply wpList_allocAgg _ HO rfl); exact rfl; infer_instance; exact rfl; clear HO; intro b6 w HO; (simp only [Act.put, zA, zB, zC]))) | (go_at_call 36; go_must ((with_reducible refine (OR _ HO.grown).mono ?_); rintro e w ⟨rfl, hb⟩; replace HO := HO.call hb; clear hb)) | (go_at_call 38; go_must ((with_reducible refine (ST _).mono ?_); rintro e w ⟨rfl, hb⟩; replace HO := HO.call hb; clear hb)))
    refine bodyPost_ret (results_box HO rfl rfl (by (repeat (with_reducible (first | exact At.head _ | apply At.tail)))) inferInstance rfl rfl) rfl ?_
    exact ⟨rfl, HO.grown⟩
  rw [if_neg c1] at HN
  have c1' : ss = 3 ∨ ss = 4 := by omega
  clear c1
  rcases c1' with rfl | rfl
  all_goals
    by_cases c2 : 9 ≤ tt ∨ 16 < nx.length
    · rw [if_pos c2] at HN
      obtain rfl := HN.out
      by_cases c3 : 9 ≤ tt
      · have d3 : decide ((9 : Int) ≤ (tt : Int)) = true := decide_eq_true (by omega)
        clear c2
        go_enter Tryz.func16, Tryz.ntmps16
        go_wp2_with (first | go_big_skip | (first | go_big_skip | ((with_reducible apply wpList_loadAll HO); exact rfl; exact rfl; (repeat (with_reducible (first | exact At.head _ | apply At.tail))); infer_instance; exact rfl; exact rfl; (simp only [Act.put, zA, zB, zC])) | ((with_reducible apply wpList_loadOne HO); exact rfl; exact rfl; (repeat (with_reducible (first | exact At.head _ | apply At.tail))); exact rfl; infer_instance; exact rfl; (simp only [Act.put, zA, zB, zC]))) | ((with_reducible apply wpList_storeAll HO); exact rfl; exact rfl; exact rfl; (repeat (with_reducible (first | exact At.head _ | apply At.tail))); infer_instance; exact rfl; exact rfl; exact rfl; exact rfl; clear HO; intro w HO; (simp only [Act.put])) | ((with_reducible apply wpList_storeOne HO); exact rfl; exact rfl; (first | (simp [Act.eval]; rfl) | exact rfl); exact rfl; (repeat (with_reducible (first | exact At.head _ | apply At.tail))); infer_instance; exact (by simp); (simp only [List.set_cons_succ, List.set_cons_zero]; rfl); exact rfl; clear HO; intro w HO; (simp only [Act.put])) | ((with_reducible apply wpList_loadPart HO); exact rfl; exact rfl; (repeat (with_reducible (first | exact At.head _ | apply At.tail))); infer_instance; exact (Nat.le_of_ble_eq_true rfl); (simp only [List.drop_zero, List.take_succ_cons, List.take_zero]; rfl); exact rfl; (simp only [Act.put, zA, zB, zC])) | (first | ((with_reducible apply wpList_boxAgg _ HO rfl); exact rfl; exact rfl; exact rfl; clear HO; intro b6 w HO; (simp only [Act.put, zA, zB, zC])) | ((with_reducible apply wpList_allocAgg _ HO rfl); exact rfl; infer_instance; exact rfl; clear HO; intro b6 w HO; (simp only [Act.put, zA, zB, zC]))) | (go_at_call 36; go_must ((with_reducible refine (OR _ HO.grown).mono ?_); rintro e w ⟨rfl, hb⟩; replace HO := HO.call hb; clear hb)) | (go_at_call 15; go_must ((with_reducible refine (OC _ HO.grown).mono ?_); rintro e w ⟨rfl, hb⟩; replace HO := HO.call hb; clear hb)) | (go_at_call 38; go_must ((with_reducible refine (ST _).mono ?_); rintro e w ⟨rfl, hb⟩; replace HO := HO.call hb; clear hb)) | (go_at_call 67; go_must ((with_reducible refine (SP _).mono ?_); rintro e w ⟨rfl, hb⟩; replace HO := HO.call hb; clear hb)) | (go_at_call 68; go_must ((with_reducible refine (JN _).mono ?_); rintro e w ⟨rfl, hb⟩; replace HO := HO.call hb; clear hb)))
        refine bodyPost_ret (results_box HO rfl rfl (by (repeat (with_reducible (first | exact At.head _ | apply At.tail)))) inferInstance rfl rfl) rfl ?_
        exact ⟨rfl, HO.grown⟩
      · have d3 : decide ((9 : Int) ≤ (tt : Int)) = false := decide_eq_false (by omega)
        have d4 : decide ((16 : Int) < (nx.length : Int)) = true := decide_eq_true (by omega)
        clear c2
        go_enter Tryz.func16, Tryz.ntmps16
        go_wp2_with (first | go_big_skip | (first | go_big_skip | ((with_reducible apply wpList_loadAll HO); exact rfl; exact rfl; (repeat (with_reducible (first | exact At.head _ | apply At.tail))); infer_instance; exact rfl; exact rfl; (simp only [Act.put, zA, zB, zC])) | ((with_reducible apply wpList_loadOne HO); exact rfl; exact rfl; (repeat (with_reducible (first | exact At.head _ | apply At.tail))); exact rfl; infer_instance; exact rfl; (simp only [Act.put, zA, zB, zC]))) | ((with_reducible apply wpList_storeAll HO); exact rfl; exact rfl; exact rfl; (repeat (with_reducible (first | exact At.head _ | apply At.tail))); infer_instance; exact rfl; exact rfl; exact rfl; exact rfl; clear HO; intro w HO; (simp only [Act.put])) | ((with_reducible apply wpList_storeOne HO); exact rfl; exact rfl; (first | (simp [Act.eval]; rfl) | exact rfl); exact rfl; (repeat (with_reducible (first | exact At.head _ | apply At.tail))); infer_instance; exact (by simp); (simp only [List.set_cons_succ, List.set_cons_zero]; rfl); exact rfl; clear HO; intro w HO; (simp only [Act.put])) | ((with_reducible apply wpList_loadPart HO); exact rfl; exact rfl; (repeat (with_reducible (first | exact At.head _ | apply At.tail))); infer_instance; exact (Nat.le_of_ble_eq_true rfl); (simp only [List.drop_zero, List.take_succ_cons, List.take_zero]; rfl); exact rfl; (simp only [Act.put, zA, zB, zC])) | (first | ((with_reducible apply wpList_boxAgg _ HO rfl); exact rfl; exact rfl; exact rfl; clear HO; intro b6 w HO; (simp only [Act.put, zA, zB, zC])) | ((with_reducible apply wpList_allocAgg _ HO rfl); exact rfl; infer_instance; exact rfl; clear HO; intro b6 w HO; (simp only [Act.put, zA, zB, zC]))) | (go_at_call 36; go_must ((with_reducible refine (OR _ HO.grown).mono ?_); rintro e w ⟨rfl, hb⟩; replace HO := HO.call hb; clear hb)) | (go_at_call 15; go_must ((with_reducible refine (OC _ HO.grown).mono ?_); rintro e w ⟨rfl, hb⟩; replace HO := HO.call hb; clear hb)) | (go_at_call 38; go_must ((with_reducible refine (ST _).mono ?_); rintro e w ⟨rfl, hb⟩; replace HO := HO.call hb; clear hb)) | (go_at_call 67; go_must ((with_reducible refine (SP _).mono ?_); rintro e w ⟨rfl, hb⟩; replace HO := HO.call hb; clear hb)) | (go_at_call 68; go_must ((with_reducible refine (JN _).mono ?_); rintro e w ⟨rfl, hb⟩; replace HO := HO.call hb; clear hb)))
        refine bodyPost_ret (results_box HO rfl rfl (by (repeat (with_reducible (first | exact At.head _ | apply At.tail)))) inferInstance rfl rfl) rfl ?_
        exact ⟨rfl, HO.grown⟩
    rw [if_neg c2] at HN
    have d3 : decide ((9 : Int) ≤ (tt : Int)) = false := decide_eq_false (by omega)
    have d4 : decide ((16 : Int) < (nx.length : Int)) = false := decide_eq_false (by omega)
    clear c2
    by_cases c5 : fd ≠ 0
    · rw [if_pos c5] at HN
      obtain rfl := HN.out
      have d5 : ((fd : Int) != 0) = true := by rw [bne_iff_ne]; omega
      go_enter Tryz.func16, Tryz.ntmps16
      go_wp2_with (first | go_big_skip | (first | go_big_skip | ((with_reducible apply wpList_loadAll HO); exact rfl; exact rfl; (repeat (with_reducible (first | exact At.head _ | apply At.tail))); infer_instance; exact rfl; exact rfl; (simp only [Act.put, zA, zB, zC])) | ((with_reducible apply wpList_loadOne HO); exact rfl; exact rfl; (repeat (with_reducible (first | exact At.head _ | apply At.tail))); exact rfl; infer_instance; exact rfl; (simp only [Act.put, zA, zB, zC]))) | ((with_reducible apply wpList_storeAll HO); exact rfl; exact rfl; exact rfl; (repeat (with_reducible (first | exact At.head _ | apply At.tail))); infer_instance; exact rfl; exact rfl; exact rfl; exact rfl; clear HO; intro w HO; (simp only [Act.put])) | ((with_reducible apply wpList_storeOne HO); exact rfl; exact rfl; (first | (simp [Act.eval]; rfl) | exact rfl); exact rfl; (repeat (with_reducible (first | exact At.head _ | apply At.tail))); infer_instance; exact (by simp); (simp only [List.set_cons_succ, List.set_cons_zero]; rfl); exact rfl; clear HO; intro w HO; (simp only [Act.put])) | ((with_reducible apply wpList_loadPart HO); exact rfl; exact rfl; (repeat (with_reducible (first | exact At.head _ | apply At.tail))); infer_instance; exact (Nat.le_of_ble_eq_true rfl); (simp only [List.drop_zero, List.take_succ_cons, List.take_zero]; rfl); exact rfl; (simp only [Act.put, zA, zB, zC])) | (first | ((with_reducible apply wpList_boxAgg _ HO rfl); exact rfl; exact rfl; exact rfl; clear HO; intro b6 w HO; (simp only [Act.put, zA, zB, zC])) | ((with_reducible apply wpList_allocAgg _ HO rfl); exact rfl; infer_instance; exact rfl; clear HO; intro b6 w HO; (simp only [Act.put, zA, zB, zC]))) | (go_at_call 36; go_must ((with_reducible refine (OR _ HO.grown).mono ?_); rintro e w ⟨rfl, hb⟩; replace HO := HO.call hb; clear hb)) | (go_at_call 15; go_must ((with_reducible refine (OC _ HO.grown).mono ?_); rintro e w ⟨rfl, hb⟩; replace HO := HO.call hb; clear hb)) | (go_at_call 38; go_must ((with_reducible refine (ST _).mono ?_); rintro e w ⟨rfl, hb⟩; replace HO := HO.call hb; clear hb)) | (go_at_call 67; go_must ((with_reducible refine (SP _).mono ?_); rintro e w ⟨rfl, hb⟩; replace HO := HO.call hb; clear hb)) | (go_at_call 68; go_must ((with_reducible refine (JN _).mono ?_); rintro e w ⟨rfl, hb⟩; replace HO := HO.call hb; clear hb)) | (go_at_call 69; go_must ((with_reducible refine (FN _ HO.grown).mono ?_); rintro e w ⟨rfl, hb⟩; replace HO := HO.call hb; clear hb)))
      refine bodyPost_ret (results_box HO rfl rfl (by (repeat (with_reducible (first | exact At.head _ | apply At.tail)))) inferInstance rfl rfl) rfl ?_
      exact ⟨rfl, HO.grown⟩
    rw [if_neg c5] at HN
    obtain rfl : fd = 0 := by omega
    by_cases c6 : 60 < S.L.length + 1
    · rw [if_pos c6] at HN
      obtain rfl := HN.out
      have d6 : (60 : Int) < (S.L.length : Int) + 1 := by omega
      go_enter Tryz.func16, Tryz.ntmps16
      go_wp2_with (first | go_big_skip | (first | go_big_skip | ((with_reducible apply wpList_loadAll HO); exact rfl; exact rfl; (repeat (with_reducible (first | exact At.head _ | apply At.tail))); infer_instance; exact rfl; exact rfl; (simp only [Act.put, zA, zB, zC])) | ((with_reducible apply wpList_loadOne HO); exact rfl; exact rfl; (repeat (with_reducible (first | exact At.head _ | apply At.tail))); exact rfl; infer_instance; exact rfl; (simp only [Act.put, zA, zB, zC]))) | ((with_reducible apply wpList_storeAll HO); exact rfl; exact rfl; exact rfl; (repeat (with_reducible (first | exact At.head _ | apply At.tail))); infer_instance; exact rfl; exact rfl; exact rfl; exact rfl; clear HO; intro w HO; (simp only [Act.put])) | ((with_reducible apply wpList_storeOne HO); exact rfl; exact rfl; (first | (simp [Act.eval]; rfl) | exact rfl); exact rfl; (repeat (with_reducible (first | exact At.head _ | apply At.tail))); infer_instance; exact (by simp); (simp only [List.set_cons_succ, List.set_cons_zero]; rfl); exact rfl; clear HO; intro w HO; (simp only [Act.put])) | ((with_reducible apply wpList_loadPart HO); exact rfl; exact rfl; (repeat (with_reducible (first | exact At.head _ | apply At.tail))); infer_instance; exact (Nat.le_of_ble_eq_true rfl); (simp only [List.drop_zero, List.take_succ_cons, List.take_zero]; rfl); exact rfl; (simp only [Act.put, zA, zB, zC])) | (first | ((with_reducible apply wpList_boxAgg _ HO rfl); exact rfl; exact rfl; exact rfl; clear HO; intro b6 w HO; (simp only [Act.put, zA, zB, zC])) | ((with_reducible apply wpList_allocAgg _ HO rfl); exact rfl; infer_instance; exact rfl; clear HO; intro b6 w HO; (simp only [Act.put, zA, zB, zC]))) | (go_at_call 36; go_must ((with_reducible refine (OR _ HO.grown).mono ?_); rintro e w ⟨rfl, hb⟩; replace HO := HO.call hb; clear hb)) | (go_at_call 15; go_must ((with_reducible refine (OC _ HO.grown).mono ?_); rintro e w ⟨rfl, hb⟩; replace HO := HO.call hb; clear hb)) | (go_at_call 38; go_must ((with_reducible refine (ST _).mono ?_); rintro e w ⟨rfl, hb⟩; replace HO := HO.call hb; clear hb)) | (go_at_call 67; go_must ((with_reducible refine (SP _).mono ?_); rintro e w ⟨rfl, hb⟩; replace HO := HO.call hb; clear hb)) | (go_at_call 68; go_must ((with_reducible refine (JN _).mono ?_); rintro e w ⟨rfl, hb⟩; replace HO := HO.call hb; clear hb)) | (go_at_call 69; go_must ((with_reducible refine (FN _ HO.grown).mono ?_); rintro e w ⟨rfl, hb⟩; replace HO := HO.call hb; clear hb)))
      refine bodyPost_ret (results_box HO rfl rfl (by (repeat (with_reducible (first | exact At.head _ | apply At.tail)))) inferInstance rfl rfl) rfl ?_
      exact ⟨rfl, HO.grown⟩
    · rw [if_neg c6] at HN
      obtain rfl := HN.out
      have d6 : ¬ ((60 : Int) < (S.L.length : Int) + 1) := by omega
      go_enter Tryz.func16, Tryz.ntmps16
      go_wp2_with (first | go_big_skip | (first | go_big_skip | ((with_reducible apply wpList_loadAll HO); exact rfl; exact rfl; (repeat (with_reducible (first | exact At.head _ | apply At.tail))); infer_instance; exact rfl; exact rfl; (simp only [Act.put, zA, zB, zC])) | ((with_reducible apply wpList_loadOne HO); exact rfl; exact rfl; (repeat (with_reducible (first | exact At.head _ | apply At.tail))); exact rfl; infer_instance; exact rfl; (simp only [Act.put, zA, zB, zC]))) | ((with_reducible apply wpList_storeAll HO); exact rfl; exact rfl; exact rfl; (repeat (with_reducible (first | exact At.head _ | apply At.tail))); infer_instance; exact rfl; exact rfl; exact rfl; exact rfl; clear HO; intro w HO; (simp only [Act.put])) | ((with_reducible apply wpList_storeOne HO); exact rfl; exact rfl; (first | (simp [Act.eval]; rfl) | exact rfl); exact rfl; (repeat (with_reducible (first | exact At.head _ | apply At.tail))); infer_instance; exact (by simp); (simp only [List.set_cons_succ, List.set_cons_zero]; rfl); exact rfl; clear HO; intro w HO; (simp only [Act.put])) | ((with_reducible apply wpList_loadPart HO); exact rfl; exact rfl; (repeat (with_reducible (first | exact At.head _ | apply At.tail))); infer_instance; exact (Nat.le_of_ble_eq_true rfl); (simp only [List.drop_zero, List.take_succ_cons, List.take_zero]; rfl); exact rfl; (simp only [Act.put, zA, zB, zC])) | (first | ((with_reducible apply wpList_boxAgg _ HO rfl); exact rfl; exact rfl; exact rfl; clear HO; intro b6 w HO; (simp only [Act.put, zA, zB, zC])) | ((with_reducible apply wpList_allocAgg _ HO rfl); exact rfl; infer_instance; exact rfl; clear HO; intro b6 w HO; (simp only [Act.put, zA, zB, zC]))) | (go_at_call 36; go_must ((with_reducible refine (OR _ HO.grown).mono ?_); rintro e w ⟨rfl, hb⟩; replace HO := HO.call hb; clear hb)) | (go_at_call 15; go_must ((with_reducible refine (OC _ HO.grown).mono ?_); rintro e w ⟨rfl, hb⟩; replace HO := HO.call hb; clear hb)) | (go_at_call 38; go_must ((with_reducible refine (ST _).mono ?_); rintro e w ⟨rfl, hb⟩; replace HO := HO.call hb; clear hb)) | (go_at_call 67; go_must ((with_reducible refine (SP _).mono ?_); rintro e w ⟨rfl, hb⟩; replace HO := HO.call hb; clear hb)) | (go_at_call 68; go_must ((with_reducible refine (JN _).mono ?_); rintro e w ⟨rfl, hb⟩; replace HO := HO.call hb; clear hb)) | (go_at_call 69; go_must ((with_reducible refine (FN _ HO.grown).mono ?_); rintro e w ⟨rfl, hb⟩; replace HO := HO.call hb; clear hb)))
      refine bodyPost_ret (results_box HO rfl rfl (by (repeat (with_reducible (first | exact At.head _ | apply At.tail)))) inferInstance rfl rfl) rfl ?_
      exact ⟨rfl, HO.grown⟩
end Go.Proofs.YtibabfedpdoofaaGreatDoor
namespace Go.Proofs.YtibabfedpdoofaaGreatDoor
open Go.RowKit Go.Own Go.Maps

theorem isL_cell' {w : World} {k n c : Nat} {q : Addr} {L : List (List Value)} (h : IsL w k (.slice (some q) n c) L) {j : Nat} (hj : j < L.length) : ∀ i u, L[j][i]? = some u → w.cell? ((q.add (j * k)).add i) = some u := by
  obtain ⟨b, cap, hb, _, _, hR⟩ := h.at (by omega)
  cases hb
  exact fun i u hu => hR.c j hj i u hu
def intC (n : Nat) : List Value := [.int .i64 (n : Int)]
theorem intC_len (l : List Nat) : ∀ x ∈ l.map intC, x.length = 1 := fun x hx => by
  obtain ⟨y, _, rfl⟩ := List.mem_map.1 hx
  rfl
def chainN (L : List (OrdS × D6)) (b : List UInt8) : Nat → List Nat
  | 0 => []
  | k + 1 => chainN L b k ++ (if findL L (joinL b (k + 1)) = 0 then [] else [findL L (joinL b (k + 1))])
def chainL (L : List (OrdS × D6)) (id : Int) : List Nat := match ordAt L id with
  | none => []
  | some x => chainN L (splitB x.1.ref) 9
theorem chainN_len (L : List (OrdS × D6)) (b : List UInt8) : ∀ k, (chainN L b k).length ≤ k
  | 0 => by simp [chainN]
  | k + 1 => by
    have := chainN_len L b k
    unfold chainN
    rw [List.length_append]
    split <;> simp <;> omega
theorem chainN_in (L : List (OrdS × D6)) (b : List UInt8) : ∀ k, ∀ n ∈ chainN L b k, 1 ≤ n ∧ n ≤ L.length
  | 0, n, h => by cases h
  | k + 1, n, h => by
    unfold chainN at h
    rcases List.mem_append.1 h with h | h
    · exact chainN_in L b k n h
    · split at h
      · cases h
      · obtain rfl := List.mem_singleton.1 h
        have := findL_le L (joinL b (k + 1))
        omega
theorem chainL_in {L : List (OrdS × D6)} {id : Int} : (chainL L id).length ≤ 9 ∧ ∀ n ∈ chainL L id, 1 ≤ n ∧ n ≤ L.length := by
  unfold chainL
  split
  · exact ⟨by simp, by simp⟩
  · exact ⟨chainN_len _ _ _, chainN_in _ _ _⟩

set_option maxHeartbeats 16000000 in
set_option maxRecDepth 100000 in
theorem chain_any {W : World} {a : CoA} {S : CoS} {i : InA} {A : InS} (h : CoAt W a S i A) (hl : S.L.length ≤ 60) (hr : refsOk S.L) {id : Int} (hi : inI id = true) : Calls Tryz.prog 21 #[.pointer (some ⟨a.c, 0, none⟩), .int .i64 id] W fun e w' => ∃ v, e = .returned v ∧ Own W w' [row 3 1 v ((chainL S.L id).map intC)] := by
  have HO := Own.start W
  have OR := fun w' (hb : Below W.heap.size W w') => coOrder_any (h.below hb) hi
  have FD := Lib.hid (fun ref w' (hb : Below W.heap.size W w') => find_any (h.below hb) hl ref)
  clear h
  rcases hx : ordAt S.L id with _ | y
  · rw [hx] at OR
    simp only [ordR, noSaga] at OR
    rw [show chainL S.L id = [] by unfold chainL; rw [hx]]
    clear hx
    go_enter Tryz.func21, Tryz.ntmps21
    go_wp2_with (first | go_big_skip | (first | go_big_skip | ((with_reducible apply wpList_loadAll HO); exact rfl; exact rfl; (repeat (with_reducible (first | exact At.head _ | apply At.tail))); infer_instance; exact rfl; exact rfl; (simp only [Act.put, zA, zB, zC])) | ((with_reducible apply wpList_loadOne HO); exact rfl; exact rfl; (repeat (with_reducible (first | exact At.head _ | apply At.tail))); exact rfl; infer_instance; exact rfl; (simp only [Act.put, zA, zB, zC]))) | ((with_reducible apply wpList_storeAll HO); exact rfl; exact rfl; exact rfl; (repeat (with_reducible (first | exact At.head _ | apply At.tail))); infer_instance; exact rfl; exact rfl; exact rfl; exact rfl; clear HO; intro w HO; (simp only [Act.put])) | (first | ((with_reducible apply wpList_boxAgg _ HO rfl); exact rfl; exact rfl; exact rfl; clear HO; intro b6 w HO; (simp only [Act.put, zA, zB, zC])) | ((with_reducible apply wpList_allocAgg _ HO rfl); exact rfl; infer_instance; exact rfl; clear HO; intro b6 w HO; (simp only [Act.put, zA, zB, zC]))) | (go_at_call 36; go_must ((with_reducible refine (OR _ HO.grown).mono ?_); rintro e w ⟨rfl, hb⟩; replace HO := HO.call hb; clear hb)))
    go_ret
    exact ⟨_, rfl, HO.tail.nil 3 1⟩
  obtain ⟨o, s⟩ := y
  have hro : o.ref.length ≤ 16 := by
    obtain ⟨j, hj, _, hy⟩ := ordAt_some hx
    have := hr _ (List.getElem_mem hj)
    rw [← hy] at this
    exact this
  rw [hx] at OR
  simp only [ordR, sagaV] at OR
  have SP := fun w => split_any o.ref (by unfold maxLen; omega) w
  have hb := splitB_len o.ref
  have JN := Lib.hid (fun (k : Nat) (hk : k < 9) w => (show Calls Tryz.prog 68 #[.string ⟨(splitB o.ref).toArray⟩, .int .i64 ((k : Int) + 1)] w fun e w' => e = .returned (.string ⟨(joinL (splitB o.ref) (k + 1)).toArray⟩) ∧ Below w.heap.size w w' from join_any (splitB o.ref) (t := k + 1) (by omega) (by omega) (by omega) w))
  rw [show chainL S.L id = chainN S.L (splitB o.ref) 9 by unfold chainL; rw [hx]; first | done | rfl]
  have HC := Lib.hid (fun k => show chainN S.L (splitB o.ref) (k + 1) = chainN S.L (splitB o.ref) k ++ (if findL S.L (joinL (splitB o.ref) (k + 1)) = 0 then [] else [findL S.L (joinL (splitB o.ref) (k + 1))]) from rfl)
  have HLn := Lib.hid (chainN_len S.L (splitB o.ref))
  generalize splitB o.ref = bb at *
  clear hx hr hi hro hb
  go_enter Tryz.func21, Tryz.ntmps21
  go_wp2_with (first | go_big_skip | (first | go_big_skip | ((with_reducible apply wpList_loadAll HO); exact rfl; exact rfl; (repeat (with_reducible (first | exact At.head _ | apply At.tail))); infer_instance; exact rfl; exact rfl; (simp only [Act.put, zA, zB, zC])) | ((with_reducible apply wpList_loadOne HO); exact rfl; exact rfl; (repeat (with_reducible (first | exact At.head _ | apply At.tail))); exact rfl; infer_instance; exact rfl; (simp only [Act.put, zA, zB, zC]))) | ((with_reducible apply wpList_storeAll HO); exact rfl; exact rfl; exact rfl; (repeat (with_reducible (first | exact At.head _ | apply At.tail))); infer_instance; exact rfl; exact rfl; exact rfl; exact rfl; clear HO; intro w HO; (simp only [Act.put])) | (first | ((with_reducible apply wpList_boxAgg _ HO rfl); exact rfl; exact rfl; exact rfl; clear HO; intro b6 w HO; (simp only [Act.put, zA, zB, zC])) | ((with_reducible apply wpList_allocAgg _ HO rfl); exact rfl; infer_instance; exact rfl; clear HO; intro b6 w HO; (simp only [Act.put, zA, zB, zC]))) | (go_at_call 36; go_must ((with_reducible refine (OR _ HO.grown).mono ?_); rintro e w ⟨rfl, hb⟩; replace HO := HO.call hb; clear hb)) | (go_at_call 67; go_must ((with_reducible refine (SP _).mono ?_); rintro e w ⟨rfl, hb⟩; replace HO := HO.call hb; clear hb)))
  replace HO := HO.tail.nil 3 1
  go_loopw [9, 10] (fun vl tv wr => ∃ k : Nat, k ≤ 9 ∧ tv = .int .i64 ((k : Int) + 1) ∧ Own W wr [row 3 1 vl ((chainN S.L bb k).map intC)]) (fun _ tv _ => 12 - (intOf tv).toNat)
  case atStart => exact ⟨0, by omega, rfl, HO⟩
  case round =>
    clear HO
    obtain ⟨k, hk, rfl, HO⟩ := hrel
    by_cases hk9 : k < 9
    · have hkI : (k : Int) + 1 ≤ 9 := by omega
      have JNk := fun w => JN.out k hk9 w
      have FDk := fun w hb => FD.out (joinL bb (k + 1)) w hb
      have HCk := HC.out k
      have hln := HLn.out k
      generalize hnx : chainN S.L bb (k + 1) = nx at *
      generalize chainN S.L bb k = ol at *
      generalize findL S.L (joinL bb (k + 1)) = fd at *
      generalize joinL bb (k + 1) = rf at *
      by_cases h0 : fd = 0
      · subst h0
        rw [if_pos rfl, List.append_nil] at HCk
        subst HCk
        replace hnx := Lib.hid hnx
        go_wp2_with (first | go_big_skip | (first | go_big_skip | ((with_reducible apply wpList_loadAll HO); exact rfl; exact rfl; (repeat (with_reducible (first | exact At.head _ | apply At.tail))); infer_instance; exact rfl; exact rfl; (simp only [Act.put, zA, zB, zC])) | ((with_reducible apply wpList_loadOne HO); exact rfl; exact rfl; (repeat (with_reducible (first | exact At.head _ | apply At.tail))); exact rfl; infer_instance; exact rfl; (simp only [Act.put, zA, zB, zC]))) | (go_at_call 68; go_must ((with_reducible refine (JNk _).mono ?_); rintro e w ⟨rfl, hb⟩; replace HO := HO.call hb; clear hb)) | (go_at_call 69; go_must ((with_reducible refine (FDk _ HO.grown).mono ?_); rintro e w ⟨rfl, hb⟩; replace HO := HO.call hb; clear hb)))
        go_roundw
        case rel => exact ⟨k + 1, by omega, by go_num, by rw [hnx.out]; exact HO⟩
        case measure => simp [intOf] <;> omega
      · rw [if_neg h0] at HCk
        have hd : ((fd : Int) != 0) = true := by rw [bne_iff_ne]; omega
        have hll : (ol.map intC).length + 1 ≤ 1000000 := by rw [List.length_map]; omega
        replace HCk := Lib.hid HCk
        replace hnx := Lib.hid hnx
        go_wp2_with (first | go_big_skip | (first | go_big_skip | ((with_reducible apply wpList_loadAll HO); exact rfl; exact rfl; (repeat (with_reducible (first | exact At.head _ | apply At.tail))); infer_instance; exact rfl; exact rfl; (simp only [Act.put, zA, zB, zC])) | ((with_reducible apply wpList_loadOne HO); exact rfl; exact rfl; (repeat (with_reducible (first | exact At.head _ | apply At.tail))); exact rfl; infer_instance; exact rfl; (simp only [Act.put, zA, zB, zC]))) | (first | ((with_reducible apply wpList_lit1 HO); exact rfl; infer_instance; infer_instance; exact rfl; exact rfl; exact (by decide); exact rfl; clear HO; intro bl w HO; (simp only [Act.put, zA, zB, zC])) | ((with_reducible apply wpList_lit1c HO); exact rfl; infer_instance; infer_instance; (first | (simp [Act.eval]; rfl) | exact rfl); exact rfl; exact rfl; clear HO; intro bl w HO; (simp only [Act.put, zA, zB, zC]))) | ((with_reducible apply wpList_push1 HO); exact rfl; infer_instance; infer_instance; (first | (simp [Act.eval]; rfl) | exact rfl); exact rfl; intro _; (repeat (with_reducible (first | exact At.head _ | apply At.tail))); exact rfl; exact rfl; (first | omega | (simp; omega)); decide; exact rfl; clear HO; intro v2 w HO hv2; (simp only [Act.put, zA, zB, zC])) | (go_at_call 68; go_must ((with_reducible refine (JNk _).mono ?_); rintro e w ⟨rfl, hb⟩; replace HO := HO.call hb; clear hb)) | (go_at_call 69; go_must ((with_reducible refine (FDk _ HO.grown).mono ?_); rintro e w ⟨rfl, hb⟩; replace HO := HO.call hb; clear hb)))
        go_roundw
        case rel => exact ⟨k + 1, by omega, by go_num, by rw [hnx.out, HCk.out, List.map_append]; exact HO⟩
        case measure => simp [intOf] <;> omega
    · obtain rfl : k = 9 := by omega
      go_wp2_with fail
      go_ret
      exact ⟨_, rfl, HO⟩

def netOf (L : List (OrdS × D6)) (n : Nat) : Int := match ordAt L (n : Int) with
  | some x => netS x.1 x.2
  | none => 0
def chStep (L : List (OrdS × D6)) (s : Int × Bool) (n : Nat) : Int × Bool := if s.2 = true then addI s.1 (netOf L n) else s
def chFold (L : List (OrdS × D6)) (l : List Nat) : Int × Bool := l.foldl (chStep L) (0, decide (0 < l.length))
def chargedR (L : List (OrdS × D6)) (id : Int) : Int × Bool := if (chFold L (chainL L id)).2 = true then ((chFold L (chainL L id)).1, true) else (0, false)
theorem chFold_in (L : List (OrdS × D6)) : ∀ (l : List Nat) (s : Int × Bool), inI s.1 = true → inI (l.foldl (chStep L) s).1 = true
  | [], _, h => h
  | n :: l, s, h => chFold_in L l _ (by
    unfold chStep
    split
    · exact addI_in _ _
    · exact h)

set_option maxHeartbeats 16000000 in
set_option maxRecDepth 100000 in
theorem charged_again {W : World} {a : CoA} {S : CoS} {i : InA} {A : InS} (h : CoAt W a S i A) (hl : S.L.length ≤ 60) (ho : ∀ x ∈ S.L, ordE x.1 = 0) {id : Int} (hi : inI id = true) : Calls Tryz.prog 18 #[.pointer (some ⟨a.c, 0, none⟩), .int .i64 id] W fun e w' => e = .returned (.tuple #[.int .i64 (chargedR S.L id).1, .bool (chargedR S.L id).2]) ∧ Below W.heap.size W w' := by
  have HO := Own.start W
  have CH := fun w' (hb : Below W.heap.size W w') => chain_any (h.below hb) hl (refsOk_of ho) hi
  have OR := Lib.hid (fun (n : Nat) (hn : n ≤ 60) w' (hb : Below W.heap.size W w') => coOrder_any (h.below hb) (id := (n : Int)) (inI_iff.2 (by omega)))
  have HN := Lib.hid (fun (n : Nat) (h1 : 1 ≤ n) (h2 : n ≤ S.L.length) => show ∃ x, ordAt S.L (n : Int) = some x ∧ x ∈ S.L from ⟨S.L[n - 1], ordAt_yes (j := n - 1) (by omega) (by omega), List.getElem_mem _⟩)
  have HB := Lib.hid (fun x hx s => netS_bound (o := x) hx s)
  have hin := (chainL_in (L := S.L) (id := id)).2
  have hcl := (chainL_in (L := S.L) (id := id)).1
  have HR := Lib.hid (show chargedR S.L id = if (chFold S.L (chainL S.L id)).2 = true then ((chFold S.L (chainL S.L id)).1, true) else (0, false) from rfl)
  have HF := Lib.hid (show chFold S.L (chainL S.L id) = (chainL S.L id).foldl (chStep S.L) (0, decide (0 < (chainL S.L id).length)) from rfl)
  generalize chargedR S.L id = cr at *
  generalize chFold S.L (chainL S.L id) = cf at *
  generalize chainL S.L id = l at *
  clear h
  go_enter Tryz.func18, Tryz.ntmps18
  go_wp2_with (first | go_big_skip | (go_at_call 21; go_must ((with_reducible refine (CH _ HO.grown).mono ?_); rintro e w ⟨v7, rfl, HO1⟩; replace HO := HO.lift HO1; clear HO1; rw [List.append_nil] at HO; obtain ⟨⟨p7, c7, rfl⟩, -⟩ := HO.rowForm (.head _); rw [List.length_map] at HO ⊢)))
  have HS := Lib.hid (fun (j : Nat) (hj : j < l.length) => show (l.take (j + 1)).foldl (chStep S.L) (0, decide (0 < l.length)) = chStep S.L ((l.take j).foldl (chStep S.L) (0, decide (0 < l.length))) l[j] from by rw [List.take_succ_eq_append_getElem hj, List.foldl_append]; rfl)
  have HI := Lib.hid (fun (j : Nat) => chFold_in S.L (l.take j) (0, decide (0 < l.length)) rfl)
  have hd0 : decide ((0 : Int) < (l.length : Int)) = decide (0 < l.length) := by
    by_cases h : 0 < l.length
    · rw [decide_eq_true h, decide_eq_true (by omega)]
    · rw [decide_eq_false h, decide_eq_false (by omega)]
  go_loopw [7, 8, 21] (fun sv ov iv wr => ∃ (j : Nat) (s : Int × Bool), j ≤ l.length ∧ s = (l.take j).foldl (chStep S.L) (0, decide (0 < l.length)) ∧ sv = .int .i64 s.1 ∧ ov = .bool s.2 ∧ iv = .int .i64 (j : Int) ∧ Own W wr [row 3 1 (.slice p7 l.length c7) (l.map intC)]) (fun _ _ iv _ => l.length - (intOf iv).toNat)
  case atStart => exact ⟨0, _, by omega, rfl, rfl, by first | rfl | rw [hd0] | (rw [← hd0]; rfl), rfl, HO⟩
  case round =>
    clear HO
    obtain ⟨j, s, hj, hs, rfl, rfl, rfl, HO⟩ := hrel
    by_cases hjl : j < l.length
    · have hjI : (j : Int) < (l.length : Int) := by omega
      obtain ⟨q, rfl⟩ : ∃ q, p7 = some q := by
        obtain ⟨q, c', h⟩ := (HO.rowForm (v := .slice p7 l.length c7) (.head _)).2 (by rw [List.length_map]; omega)
        rw [List.length_map] at h
        cases h
        exact ⟨q, rfl⟩
      have RW := Lib.hid (fun (w' : World) (h1 : Own W w' [row 3 1 (.slice (some q) l.length c7) (l.map intC)]) => show w'.cell? (q.add j) = some (.int .i64 (l[j] : Int)) from by
        have h2 := isL_cell' (isL_of_owns (intC_len l) (h1.has _ List.mem_cons_self)) (j := j) (by simpa using hjl) 0 (.int .i64 (l[j] : Int)) (by simp [intC])
        rwa [Nat.mul_one, add0] at h2)
      have HSj := HS.out j hjl
      have HIj := HI.out j
      obtain ⟨n1, n2⟩ := hin _ (List.getElem_mem hjl)
      rw [← hs] at HSj HIj
      clear hs
      obtain ⟨sm, ok⟩ := s
      obtain ⟨x, hx, hxm⟩ := HN.out l[j] n1 n2
      have ORj := fun w' hb => OR.out l[j] (by omega) w' hb
      rw [hx] at ORj
      have hnb := HB.out _ (ho x hxm) x.2
      rw [show chStep S.L (sm, ok) l[j] = if ok = true then addI sm (netS x.1 x.2) else (sm, ok) by unfold chStep netOf; rw [hx]] at HSj
      generalize l[j] = n at *
      obtain ⟨o, d⟩ := x
      simp only [ordR, sagaV] at ORj
      have NT := fun w => sagaNet_any o d w
      simp only [sagaV] at NT
      simp only at HSj HIj hnb
      have hni : inI (netS o d) = true := inI_iff.2 (by omega)
      have AD := fun w => mAdd_any HIj hni w
      generalize netS o d = nv at *
      generalize haa : addI sm nv = aa at *
      obtain ⟨a1, a2⟩ := aa
      clear hx hxm hnb haa
      replace HSj := Lib.hid HSj
      cases ok with
      | true =>
        rw [if_pos rfl] at HSj
        go_wp2_with (first | go_big_skip | (first | go_big_skip | ((with_reducible apply wpList_loadAll HO); exact rfl; exact rfl; (repeat (with_reducible (first | exact At.head _ | apply At.tail))); infer_instance; exact rfl; exact rfl; (simp only [Act.put, zA, zB, zC])) | ((with_reducible apply wpList_loadOne HO); exact rfl; exact rfl; (repeat (with_reducible (first | exact At.head _ | apply At.tail))); exact rfl; infer_instance; exact rfl; (simp only [Act.put, zA, zB, zC]))) | ((with_reducible apply wpList_storeAll HO); exact rfl; exact rfl; exact rfl; (repeat (with_reducible (first | exact At.head _ | apply At.tail))); infer_instance; exact rfl; exact rfl; exact rfl; exact rfl; clear HO; intro w HO; (simp only [Act.put])) | (first | ((with_reducible apply wpList_boxAgg _ HO rfl); exact rfl; exact rfl; exact rfl; clear HO; intro b6 w HO; (simp only [Act.put, zA, zB, zC])) | ((with_reducible apply wpList_allocAgg _ HO rfl); exact rfl; infer_instance; exact rfl; clear HO; intro b6 w HO; (simp only [Act.put, zA, zB, zC]))) | ((with_reducible apply wpList_loadAt1 HO); exact rfl; exact rfl; exact (fun w' h1 => RW.out w' h1); infer_instance; exact rfl; (simp only [Act.put, zA, zB, zC])) | (go_at_call 36; go_must ((with_reducible refine (ORj _ HO.grown).mono ?_); rintro e w ⟨rfl, hb⟩; replace HO := HO.call hb; clear hb)) | (go_at_call 74; go_must ((with_reducible refine (NT _).mono ?_); rintro e w ⟨rfl, hb⟩; replace HO := HO.call hb; clear hb)) | (go_at_call 51; go_must ((with_reducible refine (AD _).mono ?_); rintro e w ⟨rfl, hb⟩; replace HO := HO.call hb; clear hb)))
        replace HO := HO.tail
        go_roundw
        case rel => exact ⟨j + 1, (a1, a2), by omega, HSj.out.symm, rfl, rfl, by go_num, HO⟩
        case measure => simp [intOf] <;> omega
      | false =>
        rw [if_neg (by simp)] at HSj
        go_wp2_with (first | go_big_skip | (first | go_big_skip | ((with_reducible apply wpList_loadAll HO); exact rfl; exact rfl; (repeat (with_reducible (first | exact At.head _ | apply At.tail))); infer_instance; exact rfl; exact rfl; (simp only [Act.put, zA, zB, zC])) | ((with_reducible apply wpList_loadOne HO); exact rfl; exact rfl; (repeat (with_reducible (first | exact At.head _ | apply At.tail))); exact rfl; infer_instance; exact rfl; (simp only [Act.put, zA, zB, zC]))) | ((with_reducible apply wpList_storeAll HO); exact rfl; exact rfl; exact rfl; (repeat (with_reducible (first | exact At.head _ | apply At.tail))); infer_instance; exact rfl; exact rfl; exact rfl; exact rfl; clear HO; intro w HO; (simp only [Act.put])) | (first | ((with_reducible apply wpList_boxAgg _ HO rfl); exact rfl; exact rfl; exact rfl; clear HO; intro b6 w HO; (simp only [Act.put, zA, zB, zC])) | ((with_reducible apply wpList_allocAgg _ HO rfl); exact rfl; infer_instance; exact rfl; clear HO; intro b6 w HO; (simp only [Act.put, zA, zB, zC]))) | ((with_reducible apply wpList_loadAt1 HO); exact rfl; exact rfl; exact (fun w' h1 => RW.out w' h1); infer_instance; exact rfl; (simp only [Act.put, zA, zB, zC])) | (go_at_call 36; go_must ((with_reducible refine (ORj _ HO.grown).mono ?_); rintro e w ⟨rfl, hb⟩; replace HO := HO.call hb; clear hb)) | (go_at_call 74; go_must ((with_reducible refine (NT _).mono ?_); rintro e w ⟨rfl, hb⟩; replace HO := HO.call hb; clear hb)) | (go_at_call 51; go_must ((with_reducible refine (AD _).mono ?_); rintro e w ⟨rfl, hb⟩; replace HO := HO.call hb; clear hb)))
        replace HO := HO.tail
        go_roundw
        case rel => exact ⟨j + 1, (sm, false), by omega, HSj.out.symm, rfl, rfl, by go_num, HO⟩
        case measure => simp [intOf] <;> omega
    · obtain rfl : j = l.length := by omega
      rw [List.take_length] at hs
      rw [← HF.out] at hs
      subst hs
      obtain ⟨sm, ok⟩ := s
      cases ok with
      | true =>
        rw [if_pos rfl] at HR
        obtain rfl := HR.out
        go_wp2_with fail
        go_ret2
        exact ⟨rfl, HO.grown⟩
      | false =>
        rw [if_neg (by simp)] at HR
        obtain rfl := HR.out
        go_wp2_with fail
        go_ret2
        exact ⟨rfl, HO.grown⟩
end Go.Proofs.YtibabfedpdoofaaGreatDoor
namespace Go.Proofs.YtibabfedpdoofaaGreatDoor
open Go.RowKit Go.Own Go.Maps

set_option maxHeartbeats 8000000 in
set_option maxRecDepth 100000 in
theorem rsplit_any (l : List UInt8) (hl : l.length ≤ maxLen) (W : World) : Calls Tryz.prog 71 #[.string ⟨l.toArray⟩] W fun e w' => e = .returned (.tuple #[.string ⟨(splitB l).toArray⟩, .int .i64 (splitT l : Int)]) ∧ Below W.heap.size W w' := by
  have HO := Own.start W
  unfold maxLen at hl
  by_cases h2 : 2 < l.length
  · obtain ⟨k, hk⟩ : ∃ k, l.length = k + 2 := ⟨l.length - 2, by omega⟩
    have hkl : k < l.length := by omega
    have hkl1 : k + 1 < l.length := by omega
    have e1 : IntKind.i64.wrap ((l.length : Int) - 2) = (k : Int) := by rw [wrap_in (inI_iff.2 (by omega))]; omega
    have hI : (2 : Int) < (l.length : Int) := by omega
    have hkI : (k : Int) < (l.length : Int) := by omega
    have HB := Lib.hid (show splitB l = if isTry l = true then l.take k else l by unfold splitB; rw [hk]; rfl)
    have HT := Lib.hid (show splitT l = if isTry l = true then l[k + 1].toNat - 48 else 1 by unfold splitT; rw [hk, show k + 2 - 1 = k + 1 by omega, getD_at hkl1])
    have HY := Lib.hid (show isTry l = (decide (l[k] = 45) && (decide (50 ≤ l[k + 1].toNat) && decide (l[k + 1].toNat ≤ 57))) by
      unfold isTry
      rw [hk, show k + 2 - 1 = k + 1 by omega, show k + 2 - 2 = k by omega, getD_at hkl, getD_at hkl1, decide_eq_true (show 2 < k + 2 by omega), Bool.true_and])
    have hd : l.drop k = [l[k], l[k + 1]] := by
      rw [List.drop_eq_getElem_cons hkl, List.drop_eq_getElem_cons hkl1, List.drop_eq_nil_of_le (by omega)]
    have hk9 : k ≤ l.length := by omega
    clear hk
    go_enter Tryz.func71, Tryz.ntmps71
    go_wp2_with fail
    go_loopw [5] (fun tv wr => ∃ t : Nat, 2 ≤ t ∧ t ≤ 10 ∧ tv = .int .i64 (t : Int) ∧ (∀ s : Nat, 2 ≤ s → s < t → ¬ (l[k] = 45 ∧ l[k + 1] = UInt8.ofNat (48 + s))) ∧ Own W wr []) (fun tv _ => 12 - (intOf tv).toNat)
    case atStart => exact ⟨2, by omega, by omega, rfl, fun s h1 h2 => by omega, HO⟩
    case round =>
      clear HO
      obtain ⟨t, ht2, ht10, rfl, hno, HO⟩ := hrel
      by_cases ht : t < 10
      · have htI : (t : Int) < 10 := by omega
        have PT := fun w => refPut01_any (n := (t : Int)) (by omega) (by omega) w
        rw [Lib.itoa_nonneg, Lib.decDigits_one ht] at PT
        go_upto_region 5 with fail
        refine region_own HO (by kernel_rfl) (by kernel_rfl) ?_
        clear HO
        intro F HF
        repeat (first | (first | go_big_quiet_skip | ((with_reducible apply wpQuiet_loadAll HF); exact rfl; exact rfl; (repeat (with_reducible (first | exact At.head _ | apply At.tail))); infer_instance; exact rfl; exact rfl; (simp only [Act.put, zA, zB, zC])) | ((with_reducible apply wpQuiet_loadOne HF); exact rfl; exact rfl; (repeat (with_reducible (first | exact At.head _ | apply At.tail))); exact rfl; infer_instance; exact rfl; (simp only [Act.put, zA, zB, zC])) | ((with_reducible apply wpQuiet_loadPart HF); exact rfl; exact rfl; (repeat (with_reducible (first | exact At.head _ | apply At.tail))); infer_instance; exact (Nat.le_of_ble_eq_true rfl); (simp only [List.drop_succ_cons, List.drop_zero, List.take_succ_cons, List.take_zero]; rfl); exact rfl; (simp only [Act.put, zA, zB, zC]))) | go_big_quiet_step ((go_at_call 115; (with_reducible exact calls_fam HF (PT _)))))
        refine wpQuiet_nil ?_
        intro x
        have HO := HF.own x
        clear HF
        generalize F x = w at *
        clear x F
        have hob : (l[k + 1] = UInt8.ofNat (48 + t)) ↔ l[k + 1].toNat = 48 + t := ⟨fun h => by rw [h, UInt8.toNat_ofNat']; omega, fun h => UInt8.toNat_inj.1 (by rw [h, UInt8.toNat_ofNat']; omega)⟩
        generalize hcB : (l[k] == 45 && l[k + 1] == 48 + UInt8.ofNat t) = cB
        cases cB
        rotate_left
        · have hc : l[k] = 45 ∧ l[k + 1] = UInt8.ofNat (48 + t) := by
            rw [Bool.and_eq_true, beq_iff_eq, beq_iff_eq] at hcB
            exact ⟨hcB.1, by rw [UInt8.ofNat_add]; exact hcB.2⟩
          have hn := hob.1 hc.2
          have hy : isTry l = true := by
            rw [HY.out, decide_eq_true hc.1, decide_eq_true (show 50 ≤ l[k + 1].toNat by omega), decide_eq_true (show l[k + 1].toNat ≤ 57 by omega)]; rfl
          rw [hy, if_pos rfl] at HB HT
          have hT2 := Lib.hid (show (splitT l : Int) = (t : Int) by rw [HT.out, hn]; omega)
          clear hob hn hy hno hc HT HY hcB
          go_wp2_with fail
          go_ret2
          exact ⟨by rw [HB.out, hT2.out]; rfl, HO.grown⟩
        · have hc : ¬ (l[k] = 45 ∧ l[k + 1] = UInt8.ofNat (48 + t)) := by
            intro h
            rw [h.1, h.2, UInt8.ofNat_add] at hcB
            simp at hcB
          have hno' := Lib.hid (show ∀ s : Nat, 2 ≤ s → s < t + 1 → ¬ (l[k] = 45 ∧ l[k + 1] = UInt8.ofNat (48 + s)) from fun s h1 h2 h3 => by
            by_cases hs : s = t
            · subst hs; exact hc h3
            · exact hno s h1 (by omega) h3)
          clear hob hno hc hcB
          go_wp2_with fail
          go_roundw
          case rel => exact ⟨t + 1, by omega, by omega, by go_num, hno'.out, HO⟩
          case measure => simp [intOf] <;> omega
      · obtain rfl : t = 10 := by omega
        have hy : isTry l = false := by
          rw [HY.out, Bool.eq_false_iff]
          intro h
          simp only [Bool.and_eq_true, decide_eq_true_eq] at h
          obtain ⟨h3, h4, h5⟩ := h
          refine hno (l[k + 1].toNat - 48) (by omega) (by omega) ⟨h3, UInt8.toNat_inj.1 ?_⟩
          rw [UInt8.toNat_ofNat']; omega
        rw [hy, if_neg (by decide)] at HB HT
        clear hno hy HY
        go_wp2_with fail
        go_ret2
        exact ⟨by rw [HB.out, HT.out]; rfl, HO.grown⟩
  · have hI : ¬ ((2 : Int) < (l.length : Int)) := by omega
    have HB := Lib.hid (show splitB l = l by unfold splitB isTry; rw [decide_eq_false h2]; rfl)
    have HT := Lib.hid (show splitT l = 1 by unfold splitT isTry; rw [decide_eq_false h2]; rfl)
    generalize splitB l = sb at *
    generalize splitT l = st at *
    clear h2
    go_enter Tryz.func71, Tryz.ntmps71
    go_wp2_with fail
    go_loopw [5] (fun tv wr => tv = .int .i64 2 ∧ Own W wr []) (fun _ _ => 0)
    case atStart => exact ⟨rfl, HO⟩
    case round =>
      clear HO
      obtain ⟨rfl, HO⟩ := hrel
      go_wp2_with fail
      go_ret2
      exact ⟨by rw [HB.out, HT.out]; rfl, HO.grown⟩

set_option maxHeartbeats 8000000 in
set_option maxRecDepth 100000 in
theorem rjoin_any (b : List UInt8) {t : Nat} (h1 : 1 ≤ t) (ht : t ≤ 9) (hb : b.length ≤ 1000000) (w : World) : Calls Tryz.prog 72 #[.string ⟨b.toArray⟩, .int .i64 (t : Int)] w fun e w' => e = .returned (.string ⟨(joinL b t).toArray⟩) ∧ Below w.heap.size w w' := by
  have HO := Own.start w
  by_cases h : t = 1
  · have HJ := Lib.hid (show joinL b t = b by unfold joinL; rw [if_pos h])
    subst h
    go_enter Tryz.func72, Tryz.ntmps72
    go_wp2_with fail
    go_ret
    exact ⟨by rw [HJ.out]; rfl, HO.grown⟩
  · have HJ := Lib.hid (show joinL b t = b ++ [45, UInt8.ofNat (48 + t)] by unfold joinL; rw [if_neg h])
    have hI : ((t : Int) == 1) = false := by rw [beq_eq_false_iff_ne]; omega
    have PT := fun w => refPut01_any (n := (t : Int)) (by omega) (by omega) w
    rw [Lib.itoa_nonneg, Lib.decDigits_one (by omega)] at PT
    have c1 : ¬ (9223372036854775807 < b.length + 1) := by omega
    have c2 : ¬ (9223372036854775807 < b.length + 1 + 1) := by omega
    clear h
    go_enter Tryz.func72, Tryz.ntmps72
    go_wp2_with (first | (go_at_call 115; go_must ((with_reducible refine (PT _).mono ?_); rintro e w ⟨rfl, hb⟩; replace HO := HO.call hb; clear hb)))
    go_ret
    exact ⟨by rw [HJ.out, UInt8.ofNat_add]; rfl, HO.grown⟩
/-- The document's of the tenth try is told nowhere. -/
theorem rjoin10_any (b : List UInt8) (hb : b.length ≤ 1000000) (w : World) : Calls Tryz.prog 72 #[.string ⟨b.toArray⟩, .int .i64 10] w fun e w' => (∃ s : ByteArray, e = .returned (.string s)) ∧ Below w.heap.size w w' := by
  have HO := Own.start w
  have PT := fun w => refPut01_any (n := 10) (by omega) (by omega) w
  rw [show Lib.itoa 10 = [49, 48] by kernel_rfl] at PT
  have c1 : ¬ (9223372036854775807 < b.length + 1) := by omega
  have c2 : ¬ (9223372036854775807 < b.length + 1 + 2) := by omega
  have c3 : ¬ (9223372036854775807 < b.length + 1 + 1 + 1) := by omega
  go_enter Tryz.func72, Tryz.ntmps72
  go_wp2_with (first | (go_at_call 115; go_must ((with_reducible refine (PT _).mono ?_); rintro e w ⟨rfl, hb⟩; replace HO := HO.call hb; clear hb)))
  go_ret
  exact ⟨⟨_, rfl⟩, HO.grown⟩
end Go.Proofs.YtibabfedpdoofaaGreatDoor
namespace Go.Proofs.YtibabfedpdoofaaGreatDoor
open Go.RowKit Go.Own Go.Maps

set_option maxHeartbeats 8000000 in
set_option maxRecDepth 100000 in
theorem rfind_any {w : World} {x : RcA} {S : CoS} {A : InS} (h : RcAt w x S A) (hl : S.L.length ≤ 60) (ref : List UInt8) : Calls Tryz.prog 73 #[.pointer (some ⟨x.r, 0, none⟩), .string ⟨ref.toArray⟩] w fun e w' => e = .returned (.int .i64 (findL S.L ref : Int)) ∧ Below w.heap.size w w' := by
  have HO := Own.start w
  obtain ⟨p, c, hv, -⟩ := h.s.l.slice
  rw [List.length_map] at hv
  have HR := Lib.hid h.s.l
  have h0 := old_cell h.box 0 rfl
  have hlt := old_lt h.box
  rw [hv] at h0
  generalize ha : x.v = av at *
  subst hv
  clear h ha
  have HS := Lib.hid (fun (j : Nat) (hj : j < S.L.length) => findN_step (ref := ref) hj)
  generalize hg : findL S.L ref = g0
  have hg0 : findN ref (S.L.drop 0) 0 = g0 := hg
  clear hg
  go_enter Tryz.func73, Tryz.ntmps73
  go_wp2_with fail
  go_loopw [5] (fun iv wr => ∃ j : Nat, j ≤ S.L.length ∧ iv = .int .i64 (j : Int) ∧ findN ref (S.L.drop j) j = g0 ∧ Own w wr []) (fun iv _ => S.L.length - (intOf iv).toNat)
  case atStart => exact ⟨0, by omega, rfl, hg0, HO⟩
  case round =>
    clear HO hg0
    obtain ⟨j, hj, rfl, hf, HO⟩ := hrel
    by_cases hjl : j < S.L.length
    · have hjI : (j : Int) < (S.L.length : Int) := by omega
      have hst := HS.out j hjl
      obtain ⟨b, rfl, hcl⟩ := oldAt HR.out rfl hjl
      rw [hf] at hst
      clear HS hf
      generalize S.L[j] = y at *
      obtain ⟨o, s⟩ := y
      unfold sagaL at hcl
      have hs1 := fun w' (h1 : Own w w' []) => hcl w' h1.grown 1 _ rfl
      clear hcl
      simp only at hst
      replace hst := Lib.hid hst
      by_cases hz : o.ref = ref
      · rw [if_pos hz] at hst
        obtain rfl := hst.out
        have hD : (o.ref == ref) = true := by simpa using hz
        clear hst hz
        go_wp2_with (first | go_big_skip | ((with_reducible apply wpList_loadOld1 HO); exact rfl; exact rfl; exact hlt; exact h0; infer_instance; exact rfl; (simp only [Act.put, zA, zB, zC])) | ((with_reducible apply wpList_loadAt1 HO); exact rfl; exact rfl; exact (hs1); infer_instance; exact rfl; (simp only [Act.put, zA, zB, zC])))
        go_ret
        exact ⟨by first | rfl | (congr 2), HO.grown⟩
      · rw [if_neg hz] at hst
        have hD : (o.ref == ref) = false := by simpa using hz
        clear hz
        go_wp2_with (first | go_big_skip | ((with_reducible apply wpList_loadOld1 HO); exact rfl; exact rfl; exact hlt; exact h0; infer_instance; exact rfl; (simp only [Act.put, zA, zB, zC])) | ((with_reducible apply wpList_loadAt1 HO); exact rfl; exact rfl; exact (hs1); infer_instance; exact rfl; (simp only [Act.put, zA, zB, zC])))
        go_roundw
        case rel => exact ⟨j + 1, by omega, by go_num, hst.out.symm, HO⟩
        case measure => simp [intOf] <;> omega
    · obtain rfl : j = S.L.length := by omega
      rw [List.drop_length] at hf
      obtain rfl : 0 = g0 := hf
      clear HS
      go_wp2_with (first | go_big_skip | ((with_reducible apply wpList_loadOld1 HO); exact rfl; exact rfl; exact hlt; exact h0; infer_instance; exact rfl; (simp only [Act.put, zA, zB, zC])))
      go_ret
      exact ⟨rfl, HO.grown⟩

theorem ordAt_none {L : List (OrdS × D6)} {id : Int} (hx : ordAt L id = none) : id < 1 ∨ (L.length : Int) < id := by
  by_cases h : id < 1
  · exact .inl h
  · by_cases h2 : (L.length : Int) < id
    · exact .inr h2
    · have := ordAt_yes (L := L) (id := id) (j := (id - 1).toNat) (by omega) (by omega)
      rw [hx] at this
      cases this

set_option maxHeartbeats 16000000 in
set_option maxRecDepth 100000 in
theorem rChain_any {W : World} {x : RcA} {S : CoS} {A : InS} (h : RcAt W x S A) (hl : S.L.length ≤ 60) (hr : refsOk S.L) {id : Int} (hid : inI id = true) : Calls Tryz.prog 22 #[.pointer (some ⟨x.r, 0, none⟩), .int .i64 id] W fun e w' => ∃ v, e = .returned v ∧ Own W w' [row 3 1 v ((chainL S.L id).map intC)] := by
  have HO := Own.start W
  have FD := Lib.hid (fun ref w' (hb : Below W.heap.size W w') => rfind_any (h.below hb) hl ref)
  obtain ⟨p, c, hv, -⟩ := h.s.l.slice
  rw [List.length_map] at hv
  have HR := Lib.hid h.s.l
  have h0 := old_cell h.box 0 rfl
  have hlt := old_lt h.box
  rw [hv] at h0
  generalize ha : x.v = av at *
  subst hv
  clear h ha
  have hi := inI_iff.1 hid
  rcases hx : ordAt S.L id with _ | y
  · have hno := ordAt_none hx
    rw [show chainL S.L id = [] by unfold chainL; rw [hx]]
    clear hx hi hid FD
    by_cases h1 : id < 1
    · have hd1 : decide (id < 1) = true := decide_eq_true h1
      clear hno
      go_enter Tryz.func22, Tryz.ntmps22
      go_wp2_with (first | go_big_skip | ((with_reducible apply wpList_loadOld1 HO); exact rfl; exact rfl; exact hlt; exact h0; infer_instance; exact rfl; (simp only [Act.put, zA, zB, zC])))
      go_ret
      exact ⟨_, rfl, HO.nil 3 1⟩
    · have hd1 : decide (id < 1) = false := decide_eq_false h1
      have hd2 : decide ((S.L.length : Int) < id) = true := decide_eq_true (by omega)
      clear hno
      go_enter Tryz.func22, Tryz.ntmps22
      go_wp2_with (first | go_big_skip | ((with_reducible apply wpList_loadOld1 HO); exact rfl; exact rfl; exact hlt; exact h0; infer_instance; exact rfl; (simp only [Act.put, zA, zB, zC])))
      go_ret
      exact ⟨_, rfl, HO.nil 3 1⟩
  obtain ⟨j, hj, hid2, hy'⟩ := ordAt_some hx
  have hy := hy'.symm
  clear hy'
  obtain ⟨b, rfl, hcl⟩ := oldAt HR.out rfl hj
  rw [show S.L[j] = y from hy] at hcl
  have hjI : (j : Int) < (S.L.length : Int) := by omega
  have e1 : IntKind.i64.wrap (id - 1) = (j : Int) := by rw [wrap_in (inI_iff.2 (by omega))]; omega
  have hd1 : decide (id < 1) = false := decide_eq_false (by omega)
  have hd2 : decide ((S.L.length : Int) < id) = false := decide_eq_false (by omega)
  obtain ⟨o, s⟩ := y
  have hro : o.ref.length ≤ 16 := by
    have := hr _ (List.getElem_mem hj)
    rw [show S.L[j] = _ from hy] at this
    exact this
  unfold sagaL at hcl
  have hs1 := fun w' (h1 : Own W w' []) => hcl w' h1.grown 1 _ rfl
  have SP := fun w => rsplit_any o.ref (by unfold maxLen; omega) w
  have hb := splitB_len o.ref
  have JN := Lib.hid (fun (k : Nat) (hk : k < 9) w => (show Calls Tryz.prog 72 #[.string ⟨(splitB o.ref).toArray⟩, .int .i64 ((k : Int) + 1)] w fun e w' => e = .returned (.string ⟨(joinL (splitB o.ref) (k + 1)).toArray⟩) ∧ Below w.heap.size w w' from rjoin_any (splitB o.ref) (t := k + 1) (by omega) (by omega) (by omega) w))
  rw [show chainL S.L id = chainN S.L (splitB o.ref) 9 by unfold chainL; rw [hx]; first | done | rfl]
  have HC := Lib.hid (fun k => show chainN S.L (splitB o.ref) (k + 1) = chainN S.L (splitB o.ref) k ++ (if findL S.L (joinL (splitB o.ref) (k + 1)) = 0 then [] else [findL S.L (joinL (splitB o.ref) (k + 1))]) from rfl)
  have HLn := Lib.hid (chainN_len S.L (splitB o.ref))
  generalize splitB o.ref = bb at *
  clear hx hr hi hid hro hb hid2 hy hcl
  go_enter Tryz.func22, Tryz.ntmps22
  go_wp2_with (first | go_big_skip | ((with_reducible apply wpList_loadOld1 HO); exact rfl; exact rfl; exact hlt; exact h0; infer_instance; exact rfl; (simp only [Act.put, zA, zB, zC])) | ((with_reducible apply wpList_loadAt1 HO); exact rfl; exact rfl; exact (hs1); infer_instance; exact rfl; (simp only [Act.put, zA, zB, zC])) | (go_at_call 71; go_must ((with_reducible refine (SP _).mono ?_); rintro e w ⟨rfl, hb⟩; replace HO := HO.call hb; clear hb)))
  clear hs1
  replace HO := HO.nil 3 1
  go_loopw [7, 8] (fun vl tv wr => ∃ k : Nat, k ≤ 9 ∧ tv = .int .i64 ((k : Int) + 1) ∧ Own W wr [row 3 1 vl ((chainN S.L bb k).map intC)]) (fun _ tv _ => 12 - (intOf tv).toNat)
  case atStart => exact ⟨0, by omega, rfl, HO⟩
  case round =>
    clear HO
    obtain ⟨k, hk, rfl, HO⟩ := hrel
    by_cases hk9 : k < 9
    · have hkI : (k : Int) + 1 < 10 := by omega
      have JNk := fun w => JN.out k hk9 w
      have FDk := fun w hb => FD.out (joinL bb (k + 1)) w hb
      have HCk := HC.out k
      have hln := HLn.out k
      generalize hnx : chainN S.L bb (k + 1) = nx at *
      generalize chainN S.L bb k = ol at *
      generalize findL S.L (joinL bb (k + 1)) = fd at *
      generalize joinL bb (k + 1) = rf at *
      by_cases hz : fd = 0
      · subst hz
        rw [if_pos rfl, List.append_nil] at HCk
        subst HCk
        replace hnx := Lib.hid hnx
        go_wp2_with (first | go_big_skip | (first | go_big_skip | ((with_reducible apply wpList_loadAll HO); exact rfl; exact rfl; (repeat (with_reducible (first | exact At.head _ | apply At.tail))); infer_instance; exact rfl; exact rfl; (simp only [Act.put, zA, zB, zC])) | ((with_reducible apply wpList_loadOne HO); exact rfl; exact rfl; (repeat (with_reducible (first | exact At.head _ | apply At.tail))); exact rfl; infer_instance; exact rfl; (simp only [Act.put, zA, zB, zC]))) | (go_at_call 72; go_must ((with_reducible refine (JNk _).mono ?_); rintro e w ⟨rfl, hb⟩; replace HO := HO.call hb; clear hb)) | (go_at_call 73; go_must ((with_reducible refine (FDk _ HO.grown).mono ?_); rintro e w ⟨rfl, hb⟩; replace HO := HO.call hb; clear hb)))
        go_roundw
        case rel => exact ⟨k + 1, by omega, by go_num, by rw [hnx.out]; exact HO⟩
        case measure => simp [intOf] <;> omega
      · rw [if_neg hz] at HCk
        have hd : (0 : Int) < (fd : Int) := by omega
        have hll : (ol.map intC).length + 1 ≤ 1000000 := by rw [List.length_map]; omega
        replace HCk := Lib.hid HCk
        replace hnx := Lib.hid hnx
        go_wp2_with (first | go_big_skip | (first | go_big_skip | ((with_reducible apply wpList_loadAll HO); exact rfl; exact rfl; (repeat (with_reducible (first | exact At.head _ | apply At.tail))); infer_instance; exact rfl; exact rfl; (simp only [Act.put, zA, zB, zC])) | ((with_reducible apply wpList_loadOne HO); exact rfl; exact rfl; (repeat (with_reducible (first | exact At.head _ | apply At.tail))); exact rfl; infer_instance; exact rfl; (simp only [Act.put, zA, zB, zC]))) | (first | ((with_reducible apply wpList_lit1 HO); exact rfl; infer_instance; infer_instance; exact rfl; exact rfl; exact (by decide); exact rfl; clear HO; intro bl w HO; (simp only [Act.put, zA, zB, zC])) | ((with_reducible apply wpList_lit1c HO); exact rfl; infer_instance; infer_instance; (first | (simp [Act.eval]; rfl) | exact rfl); exact rfl; exact rfl; clear HO; intro bl w HO; (simp only [Act.put, zA, zB, zC]))) | ((with_reducible apply wpList_push1 HO); exact rfl; infer_instance; infer_instance; (first | (simp [Act.eval]; rfl) | exact rfl); exact rfl; intro _; (repeat (with_reducible (first | exact At.head _ | apply At.tail))); exact rfl; exact rfl; (first | omega | (simp; omega)); decide; exact rfl; clear HO; intro v2 w HO hv2; (simp only [Act.put, zA, zB, zC])) | (go_at_call 72; go_must ((with_reducible refine (JNk _).mono ?_); rintro e w ⟨rfl, hb⟩; replace HO := HO.call hb; clear hb)) | (go_at_call 73; go_must ((with_reducible refine (FDk _ HO.grown).mono ?_); rintro e w ⟨rfl, hb⟩; replace HO := HO.call hb; clear hb)))
        go_roundw
        case rel => exact ⟨k + 1, by omega, by go_num, by rw [hnx.out, HCk.out, List.map_append]; exact HO⟩
        case measure => simp [intOf] <;> omega
    · obtain rfl : k = 9 := by omega
      go_wp2_with fail
      go_ret
      exact ⟨_, rfl, HO⟩
end Go.Proofs.YtibabfedpdoofaaGreatDoor
namespace Go.Proofs.YtibabfedpdoofaaGreatDoor
open Go.RowKit Go.Own Go.Maps

theorem stateOf_le (s : D6) : 0 ≤ stateOf s ∧ stateOf s ≤ 4 := by
  unfold stateOf
  repeat (first | split | omega)

set_option maxHeartbeats 16000000 in
set_option maxRecDepth 100000 in
theorem rNext_any {W : World} {x : RcA} {S : CoS} {A : InS} (h : RcAt W x S A) (hl : S.L.length ≤ 60) (hr : refsOk S.L) {id : Int} (hid : inI id = true) : Calls Tryz.prog 17 #[.pointer (some ⟨x.r, 0, none⟩), .int .i64 id] W fun e w' => e = .returned (.tuple #[ordV (nextR S.L id).1, .int .i64 (nextR S.L id).2]) ∧ Below W.heap.size W w' := by
  have HO := Own.start W
  have FD := fun ref w' (hb : Below W.heap.size W w') => rfind_any (h.below hb) hl ref
  obtain ⟨p, c, hv, -⟩ := h.s.l.slice
  rw [List.length_map] at hv
  have HR := Lib.hid h.s.l
  have h0 := old_cell h.box 0 rfl
  have hlt := old_lt h.box
  rw [hv] at h0
  have H00 := Lib.hid (show ∀ w', Below W.heap.size W w' → w'.cell? ⟨x.r, 0, none⟩ = some (.slice p S.L.length c) from fun w' hb => by
    have := old_cell (h.below hb).box 0 rfl
    rw [hv] at this
    exact this)
  generalize ha : x.v = av at *
  subst hv
  clear ha
  have hi := inI_iff.1 hid
  rcases hx : ordAt S.L id with _ | y
  · have hno := ordAt_none hx
    rw [show nextR S.L id = (zeroO, 4) by unfold nextR; rw [hx]]
    clear hx hi hid FD h
    by_cases h1 : id < 1
    · have hd1 : decide (id < 1) = true := decide_eq_true h1
      clear hno
      go_enter Tryz.func17, Tryz.ntmps17
      go_wp2_with (first | go_big_skip | (first | ((with_reducible apply wpList_boxAgg _ HO rfl); exact rfl; exact rfl; exact rfl; clear HO; intro b4 w HO; (simp only [Act.put, zA, zB, zC])) | ((with_reducible apply wpList_allocAgg _ HO rfl); exact rfl; infer_instance; exact rfl; clear HO; intro b4 w HO; (simp only [Act.put, zA, zB, zC]))) | ((with_reducible apply wpList_storeAll HO); exact rfl; exact rfl; exact rfl; (repeat (with_reducible (first | exact At.head _ | apply At.tail))); infer_instance; exact rfl; exact rfl; exact rfl; exact rfl; clear HO; intro w HO; (simp only [Act.put])) | ((with_reducible apply wpList_loadOld1 HO); exact rfl; exact rfl; exact hlt; exact h0; infer_instance; exact rfl; (simp only [Act.put, zA, zB, zC])))
      refine bodyPost_ret (results_box HO rfl rfl (by (repeat (with_reducible (first | exact At.head _ | apply At.tail)))) inferInstance rfl rfl) rfl ?_
      exact ⟨rfl, HO.grown⟩
    · have hd1 : decide (id < 1) = false := decide_eq_false h1
      have hd2 : decide ((S.L.length : Int) < id) = true := decide_eq_true (by omega)
      clear hno
      go_enter Tryz.func17, Tryz.ntmps17
      go_wp2_with (first | go_big_skip | (first | ((with_reducible apply wpList_boxAgg _ HO rfl); exact rfl; exact rfl; exact rfl; clear HO; intro b4 w HO; (simp only [Act.put, zA, zB, zC])) | ((with_reducible apply wpList_allocAgg _ HO rfl); exact rfl; infer_instance; exact rfl; clear HO; intro b4 w HO; (simp only [Act.put, zA, zB, zC]))) | ((with_reducible apply wpList_storeAll HO); exact rfl; exact rfl; exact rfl; (repeat (with_reducible (first | exact At.head _ | apply At.tail))); infer_instance; exact rfl; exact rfl; exact rfl; exact rfl; clear HO; intro w HO; (simp only [Act.put])) | ((with_reducible apply wpList_loadOld1 HO); exact rfl; exact rfl; exact hlt; exact h0; infer_instance; exact rfl; (simp only [Act.put, zA, zB, zC])))
      refine bodyPost_ret (results_box HO rfl rfl (by (repeat (with_reducible (first | exact At.head _ | apply At.tail)))) inferInstance rfl rfl) rfl ?_
      exact ⟨rfl, HO.grown⟩
  obtain ⟨j, hj, hid2, hy'⟩ := ordAt_some hx
  have hy := hy'.symm
  clear hy'
  obtain ⟨b, rfl, hcl⟩ := oldAt HR.out rfl hj
  rw [show S.L[j] = y from hy] at hcl
  have hjI : (j : Int) < (S.L.length : Int) := by omega
  have e1 : IntKind.i64.wrap (id - 1) = (j : Int) := by rw [wrap_in (inI_iff.2 (by omega))]; omega
  have hd1 : decide (id < 1) = false := decide_eq_false (by omega)
  have hd2 : decide ((S.L.length : Int) < id) = false := decide_eq_false (by omega)
  obtain ⟨o, s⟩ := y
  have hro : o.ref.length ≤ 16 := by
    have := hr _ (List.getElem_mem hj)
    rw [show S.L[j] = _ from hy] at this
    exact this
  have hcl' := fun w' (h1 : Below W.heap.size W w') => hcl w' h1
  clear hcl
  unfold sagaL at hcl'
  have HL := Lib.hid hcl'
  clear hcl'
  have ST := fun w => refState_any o s w
  unfold sagaV at ST
  have SP := fun w => rsplit_any o.ref (by unfold maxLen; omega) w
  have ht := splitT_le o.ref
  have hb := splitB_len o.ref
  have J9 := fun w => rjoin10_any (splitB o.ref) (by omega) w
  have HN := Lib.hid (show nextR S.L id = if stateOf s ≠ 3 ∧ stateOf s ≠ 4 then (zeroO, 92) else if 9 ≤ splitT o.ref ∨ 16 < (nextRef o).length then (zeroO, 3) else if findL S.L (nextRef o) ≠ 0 then (zeroO, 62) else if 60 < S.L.length + 1 then (zeroO, 60) else (⟨(S.L.length : Int) + 1, nextRef o, o.sku, o.qty, o.amt⟩, 0) by unfold nextR; rw [hx]; first | done | rfl)
  have FN := FD (nextRef o)
  have JN : ∀ w, splitT o.ref < 9 → Calls Tryz.prog 72 #[.string ⟨(splitB o.ref).toArray⟩, .int .i64 ((splitT o.ref + 1 : Nat) : Int)] w fun e w' => e = .returned (.string ⟨(nextRef o).toArray⟩) ∧ Below w.heap.size w w' := fun w h9 => rjoin_any (splitB o.ref) (t := splitT o.ref + 1) (by omega) (by omega) (by omega) w
  have hnl : (nextRef o).length ≤ 20 := by
    unfold nextRef joinL
    split
    · omega
    · simp; omega
  have hss := stateOf_le s
  generalize nextR S.L id = nr at *
  generalize nextRef o = nx at *
  generalize stateOf s = ss at *
  generalize splitT o.ref = tt at *
  generalize splitB o.ref = bb at *
  generalize findL S.L nx = fd at *
  have e2 : (((tt + 1 : Nat) : Int)) = (tt : Int) + 1 := by omega
  rw [e2] at JN
  clear hx hr hi FD hro hb e2 hid2 hy hid h
  by_cases c1 : ss ≠ 3 ∧ ss ≠ 4
  · rw [if_pos c1] at HN
    obtain rfl := HN.out
    have d1 : decide (ss < 3) = true := decide_eq_true (by omega)
    have d1' : ss < 3 := by omega
    clear hss c1
    go_enter Tryz.func17, Tryz.ntmps17
    go_wp2_with (first | go_big_skip | (first | go_big_skip | ((with_reducible apply wpList_loadAll HO); exact rfl; exact rfl; (repeat (with_reducible (first | exact At.head _ | apply At.tail))); infer_instance; exact rfl; exact rfl; (simp only [Act.put, zA, zB, zC])) | ((with_reducible apply wpList_loadOne HO); exact rfl; exact rfl; (repeat (with_reducible (first | exact At.head _ | apply At.tail))); exact rfl; infer_instance; exact rfl; (simp only [Act.put, zA, zB, zC]))) | (first | ((with_reducible apply wpList_boxAgg _ HO rfl); exact rfl; exact rfl; exact rfl; clear HO; intro b4 w HO; (simp only [Act.put, zA, zB, zC])) | ((with_reducible apply wpList_allocAgg _ HO rfl); exact rfl; infer_instance; exact rfl; clear HO; intro b4 w HO; (simp only [Act.put, zA, zB, zC]))) | ((with_reducible apply wpList_storeAll HO); exact rfl; exact rfl; exact rfl; (repeat (with_reducible (first | exact At.head _ | apply At.tail))); infer_instance; exact rfl; exact rfl; exact rfl; exact rfl; clear HO; intro w HO; (simp only [Act.put])) | ((with_reducible apply wpList_loadOld1 HO); exact rfl; exact rfl; exact hlt; exact h0; infer_instance; exact rfl; (simp only [Act.put, zA, zB, zC])) | ((with_reducible apply wpList_loadAt HO); exact rfl; exact rfl; exact (fun w' h1 => HL.out w' (Own.grown h1)); infer_instance; exact rfl; exact rfl; (simp only [Act.put, zA, zB, zC])) | (go_at_call 70; go_must ((with_reducible refine (ST _).mono ?_); rintro e w ⟨rfl, hb⟩; replace HO := HO.call hb; clear hb)))
    refine bodyPost_ret (results_box HO rfl rfl (by (repeat (with_reducible (first | exact At.head _ | apply At.tail)))) inferInstance rfl rfl) rfl ?_
    exact ⟨rfl, HO.grown⟩
  rw [if_neg c1] at HN
  have d1' : ¬ ss < 3 := by omega
  clear hss c1
  by_cases c3 : 9 ≤ tt
  · rw [if_pos (.inl c3)] at HN
    obtain rfl := HN.out
    obtain rfl : tt = 9 := by omega
    clear JN HN ht c3
    go_enter Tryz.func17, Tryz.ntmps17
    go_upto_region 9 with (first | go_big_skip | (first | go_big_skip | ((with_reducible apply wpList_loadAll HO); exact rfl; exact rfl; (repeat (with_reducible (first | exact At.head _ | apply At.tail))); infer_instance; exact rfl; exact rfl; (simp only [Act.put, zA, zB, zC])) | ((with_reducible apply wpList_loadOne HO); exact rfl; exact rfl; (repeat (with_reducible (first | exact At.head _ | apply At.tail))); exact rfl; infer_instance; exact rfl; (simp only [Act.put, zA, zB, zC]))) | (first | ((with_reducible apply wpList_boxAgg _ HO rfl); exact rfl; exact rfl; exact rfl; clear HO; intro b4 w HO; (simp only [Act.put, zA, zB, zC])) | ((with_reducible apply wpList_allocAgg _ HO rfl); exact rfl; infer_instance; exact rfl; clear HO; intro b4 w HO; (simp only [Act.put, zA, zB, zC]))) | ((with_reducible apply wpList_storeAll HO); exact rfl; exact rfl; exact rfl; (repeat (with_reducible (first | exact At.head _ | apply At.tail))); infer_instance; exact rfl; exact rfl; exact rfl; exact rfl; clear HO; intro w HO; (simp only [Act.put])) | ((with_reducible apply wpList_storeOne HO); exact rfl; exact rfl; (first | (simp [Act.eval]; rfl) | exact rfl); exact rfl; (repeat (with_reducible (first | exact At.head _ | apply At.tail))); infer_instance; exact (by simp); (simp only [List.set_cons_succ, List.set_cons_zero]; rfl); exact rfl; clear HO; intro w HO; (simp only [Act.put])) | ((with_reducible apply wpList_loadPart HO); exact rfl; exact rfl; (repeat (with_reducible (first | exact At.head _ | apply At.tail))); infer_instance; exact (Nat.le_of_ble_eq_true rfl); (simp only [List.drop_zero, List.take_succ_cons, List.take_zero]; rfl); exact rfl; (simp only [Act.put, zA, zB, zC])) | ((with_reducible apply wpList_loadOld1 HO); exact rfl; exact rfl; exact hlt; exact h0; infer_instance; exact rfl; (simp only [Act.put, zA, zB, zC])) | ((with_reducible apply wpList_loadAt HO); exact rfl; exact rfl; exact (fun w' h1 => HL.out w' (Own.grown h1)); infer_instance; exact rfl; exact rfl; (simp only [Act.put, zA, zB, zC])) | (go_at_call 70; go_must ((with_reducible refine (ST _).mono ?_); rintro e w ⟨rfl, hb⟩; replace HO := HO.call hb; clear hb)) | (go_at_call 71; go_must ((with_reducible refine (SP _).mono ?_); rintro e w ⟨rfl, hb⟩; replace HO := HO.call hb; clear hb)))
    refine region_schedO ([]) [(0, true), (1, true), (2, true), (4, true), (5, true), (6, true), (7, true), (8, true), (9, true), (3, false), (10, true), (11, false), (12, true), (13, false)] HO (List.nil_sublist _) (by kernel_rfl) (by kernel_rfl) ?_
    clear HO
    intro w HO
    repeat (first | ((with_reducible apply wpHeld_loadAt1); exact rfl; exact rfl; exact rfl; exact (fun w' hw => H00.out w' (hw _ List.mem_cons_self)); infer_instance; exact rfl; (simp only [Act.put, zA, zB, zC])) | ((with_reducible apply wpHeld_pure); exact rfl; exact rfl; (intro w'; go_simp; try with_reducible rfl); (simp only [Act.put, zA, zB, zC])))
    ((with_reducible apply wpHeld_loud); exact rfl; go_wp2_with ((go_at_call 72; go_must ((with_reducible refine (J9 _).mono ?_); rintro e w ⟨⟨sx, rfl⟩, hb⟩; replace HO := HO.call hb; clear hb))))
    refine ⟨HO.heldO (List.nil_sublist _), ?_⟩
    repeat ((with_reducible apply wpHeld_pure); exact rfl; exact rfl; (intro w'; go_simp; try with_reducible rfl); (simp only [Act.put, zA, zB, zC]))
    ((with_reducible apply wpHeld_loud); exact rfl; ((with_reducible apply wpList_storeOne HO); exact rfl; exact rfl; (first | (simp [Act.eval]; rfl) | exact rfl); exact rfl; (repeat (with_reducible (first | exact At.head _ | apply At.tail))); infer_instance; exact (by simp); (simp only [List.set_cons_succ, List.set_cons_zero]; rfl); exact rfl; clear HO; intro w HO; (simp only [Act.put])))
    refine wpList_nil ⟨HO.heldO (List.nil_sublist _), ?_⟩
    repeat ((with_reducible apply wpHeld_pure); exact rfl; exact rfl; (intro w'; go_simp; try with_reducible rfl); (simp only [Act.put, zA, zB, zC]))
    ((with_reducible apply wpHeld_loud); exact rfl; ((with_reducible apply wpList_storeOne HO); exact rfl; exact rfl; (first | (simp [Act.eval]; rfl) | exact rfl); exact rfl; (repeat (with_reducible (first | exact At.head _ | apply At.tail))); infer_instance; exact (by simp); (simp only [List.set_cons_zero]; rfl); exact rfl; clear HO; intro w HO; (simp only [Act.put])))
    refine wpList_nil ⟨HO.heldO (List.nil_sublist _), ?_⟩
    refine wpHeld_end ?_
    go_wp2_with (first | go_big_skip | (first | go_big_skip | ((with_reducible apply wpList_loadAll HO); exact rfl; exact rfl; (repeat (with_reducible (first | exact At.head _ | apply At.tail))); infer_instance; exact rfl; exact rfl; (simp only [Act.put, zA, zB, zC])) | ((with_reducible apply wpList_loadOne HO); exact rfl; exact rfl; (repeat (with_reducible (first | exact At.head _ | apply At.tail))); exact rfl; infer_instance; exact rfl; (simp only [Act.put, zA, zB, zC]))) | (first | ((with_reducible apply wpList_boxAgg _ HO rfl); exact rfl; exact rfl; exact rfl; clear HO; intro b4 w HO; (simp only [Act.put, zA, zB, zC])) | ((with_reducible apply wpList_allocAgg _ HO rfl); exact rfl; infer_instance; exact rfl; clear HO; intro b4 w HO; (simp only [Act.put, zA, zB, zC]))) | ((with_reducible apply wpList_storeAll HO); exact rfl; exact rfl; exact rfl; (repeat (with_reducible (first | exact At.head _ | apply At.tail))); infer_instance; exact rfl; exact rfl; exact rfl; exact rfl; clear HO; intro w HO; (simp only [Act.put])) | ((with_reducible apply wpList_storeOne HO); exact rfl; exact rfl; (first | (simp [Act.eval]; rfl) | exact rfl); exact rfl; (repeat (with_reducible (first | exact At.head _ | apply At.tail))); infer_instance; exact (by simp); (simp only [List.set_cons_succ, List.set_cons_zero]; rfl); exact rfl; clear HO; intro w HO; (simp only [Act.put])) | ((with_reducible apply wpList_loadPart HO); exact rfl; exact rfl; (repeat (with_reducible (first | exact At.head _ | apply At.tail))); infer_instance; exact (Nat.le_of_ble_eq_true rfl); (simp only [List.drop_succ_cons, List.drop_zero, List.take_succ_cons, List.take_zero]; rfl); exact rfl; (simp only [Act.put, zA, zB, zC])))
    refine bodyPost_ret (results_box HO rfl rfl (by (repeat (with_reducible (first | exact At.head _ | apply At.tail)))) inferInstance rfl rfl) rfl ?_
    exact ⟨rfl, HO.grown⟩
  have h9 : tt < 9 := by omega
  have JN' := fun w => JN w h9
  have d9 : ((tt : Int) == 9) = false := by rw [beq_eq_false_iff_ne]; omega
  clear J9 JN
  replace ht := Lib.hid ht
  have h9' := Lib.hid h9
  clear h9 c3
  have e3 : IntKind.i64.wrap ((tt : Int) + 1) = (tt : Int) + 1 := wrap_in (inI_iff.2 (by have := h9'.out; omega))
  have e4 : IntKind.i64.wrap ((S.L.length : Int) + 1) = (S.L.length : Int) + 1 := wrap_in (inI_iff.2 (by omega))
  go_enter Tryz.func17, Tryz.ntmps17
  go_upto_region 9 with (first | go_big_skip | (first | go_big_skip | ((with_reducible apply wpList_loadAll HO); exact rfl; exact rfl; (repeat (with_reducible (first | exact At.head _ | apply At.tail))); infer_instance; exact rfl; exact rfl; (simp only [Act.put, zA, zB, zC])) | ((with_reducible apply wpList_loadOne HO); exact rfl; exact rfl; (repeat (with_reducible (first | exact At.head _ | apply At.tail))); exact rfl; infer_instance; exact rfl; (simp only [Act.put, zA, zB, zC]))) | (first | ((with_reducible apply wpList_boxAgg _ HO rfl); exact rfl; exact rfl; exact rfl; clear HO; intro b4 w HO; (simp only [Act.put, zA, zB, zC])) | ((with_reducible apply wpList_allocAgg _ HO rfl); exact rfl; infer_instance; exact rfl; clear HO; intro b4 w HO; (simp only [Act.put, zA, zB, zC]))) | ((with_reducible apply wpList_storeAll HO); exact rfl; exact rfl; exact rfl; (repeat (with_reducible (first | exact At.head _ | apply At.tail))); infer_instance; exact rfl; exact rfl; exact rfl; exact rfl; clear HO; intro w HO; (simp only [Act.put])) | ((with_reducible apply wpList_storeOne HO); exact rfl; exact rfl; (first | (simp [Act.eval]; rfl) | exact rfl); exact rfl; (repeat (with_reducible (first | exact At.head _ | apply At.tail))); infer_instance; exact (by simp); (simp only [List.set_cons_succ, List.set_cons_zero]; rfl); exact rfl; clear HO; intro w HO; (simp only [Act.put])) | ((with_reducible apply wpList_loadPart HO); exact rfl; exact rfl; (repeat (with_reducible (first | exact At.head _ | apply At.tail))); infer_instance; exact (Nat.le_of_ble_eq_true rfl); (simp only [List.drop_zero, List.take_succ_cons, List.take_zero]; rfl); exact rfl; (simp only [Act.put, zA, zB, zC])) | ((with_reducible apply wpList_loadOld1 HO); exact rfl; exact rfl; exact hlt; exact h0; infer_instance; exact rfl; (simp only [Act.put, zA, zB, zC])) | ((with_reducible apply wpList_loadAt HO); exact rfl; exact rfl; exact (fun w' h1 => HL.out w' (Own.grown h1)); infer_instance; exact rfl; exact rfl; (simp only [Act.put, zA, zB, zC])) | (go_at_call 70; go_must ((with_reducible refine (ST _).mono ?_); rintro e w ⟨rfl, hb⟩; replace HO := HO.call hb; clear hb)) | (go_at_call 71; go_must ((with_reducible refine (SP _).mono ?_); rintro e w ⟨rfl, hb⟩; replace HO := HO.call hb; clear hb)))
  refine region_schedO ([]) [(0, true), (1, true), (2, true), (4, true), (5, true), (6, true), (7, true), (8, true), (9, true), (3, false), (10, true), (11, false), (12, true), (13, false)] HO (List.nil_sublist _) (by kernel_rfl) (by kernel_rfl) ?_
  clear HO
  intro w HO
  repeat (first | ((with_reducible apply wpHeld_loadAt1); exact rfl; exact rfl; exact rfl; exact (fun w' hw => H00.out w' (hw _ List.mem_cons_self)); infer_instance; exact rfl; (simp only [Act.put, zA, zB, zC])) | ((with_reducible apply wpHeld_pure); exact rfl; exact rfl; (intro w'; go_simp; try with_reducible rfl); (simp only [Act.put, zA, zB, zC])))
  ((with_reducible apply wpHeld_loud); exact rfl; go_wp2_with ((go_at_call 72; go_must ((with_reducible refine (JN' _).mono ?_); rintro e w ⟨rfl, hb⟩; replace HO := HO.call hb; clear hb))))
  refine ⟨HO.heldO (List.nil_sublist _), ?_⟩
  repeat ((with_reducible apply wpHeld_pure); exact rfl; exact rfl; (intro w'; go_simp; try with_reducible rfl); (simp only [Act.put, zA, zB, zC]))
  ((with_reducible apply wpHeld_loud); exact rfl; ((with_reducible apply wpList_storeOne HO); exact rfl; exact rfl; (first | (simp [Act.eval]; rfl) | exact rfl); exact rfl; (repeat (with_reducible (first | exact At.head _ | apply At.tail))); infer_instance; exact (by simp); (simp only [List.set_cons_succ, List.set_cons_zero]; rfl); exact rfl; clear HO; intro w HO; (simp only [Act.put])))
  refine wpList_nil ⟨HO.heldO (List.nil_sublist _), ?_⟩
  repeat ((with_reducible apply wpHeld_pure); exact rfl; exact rfl; (intro w'; go_simp; try with_reducible rfl); (simp only [Act.put, zA, zB, zC]))
  ((with_reducible apply wpHeld_loud); exact rfl; ((with_reducible apply wpList_storeOne HO); exact rfl; exact rfl; (first | (simp [Act.eval]; rfl) | exact rfl); exact rfl; (repeat (with_reducible (first | exact At.head _ | apply At.tail))); infer_instance; exact (by simp); (simp only [List.set_cons_zero]; rfl); exact rfl; clear HO; intro w HO; (simp only [Act.put])))
  refine wpList_nil ⟨HO.heldO (List.nil_sublist _), ?_⟩
  refine wpHeld_end ?_
  by_cases c4 : 16 < nx.length
  · rw [if_pos (.inr c4)] at HN
    obtain rfl := HN.out
    have d4 : decide ((16 : Int) < (nx.length : Int)) = true := decide_eq_true (by omega)
    clear HN c4
    go_wp2_with (first | go_big_skip | (first | go_big_skip | ((with_reducible apply wpList_loadAll HO); exact rfl; exact rfl; (repeat (with_reducible (first | exact At.head _ | apply At.tail))); infer_instance; exact rfl; exact rfl; (simp only [Act.put, zA, zB, zC])) | ((with_reducible apply wpList_loadOne HO); exact rfl; exact rfl; (repeat (with_reducible (first | exact At.head _ | apply At.tail))); exact rfl; infer_instance; exact rfl; (simp only [Act.put, zA, zB, zC]))) | (first | ((with_reducible apply wpList_boxAgg _ HO rfl); exact rfl; exact rfl; exact rfl; clear HO; intro b4 w HO; (simp only [Act.put, zA, zB, zC])) | ((with_reducible apply wpList_allocAgg _ HO rfl); exact rfl; infer_instance; exact rfl; clear HO; intro b4 w HO; (simp only [Act.put, zA, zB, zC]))) | ((with_reducible apply wpList_storeAll HO); exact rfl; exact rfl; exact rfl; (repeat (with_reducible (first | exact At.head _ | apply At.tail))); infer_instance; exact rfl; exact rfl; exact rfl; exact rfl; clear HO; intro w HO; (simp only [Act.put])) | ((with_reducible apply wpList_storeOne HO); exact rfl; exact rfl; (first | (simp [Act.eval]; rfl) | exact rfl); exact rfl; (repeat (with_reducible (first | exact At.head _ | apply At.tail))); infer_instance; exact (by simp); (simp only [List.set_cons_succ, List.set_cons_zero]; rfl); exact rfl; clear HO; intro w HO; (simp only [Act.put])) | ((with_reducible apply wpList_loadPart HO); exact rfl; exact rfl; (repeat (with_reducible (first | exact At.head _ | apply At.tail))); infer_instance; exact (Nat.le_of_ble_eq_true rfl); (simp only [List.drop_succ_cons, List.drop_zero, List.take_succ_cons, List.take_zero]; rfl); exact rfl; (simp only [Act.put, zA, zB, zC])))
    refine bodyPost_ret (results_box HO rfl rfl (by (repeat (with_reducible (first | exact At.head _ | apply At.tail)))) inferInstance rfl rfl) rfl ?_
    exact ⟨rfl, HO.grown⟩
  have d4 : decide ((16 : Int) < (nx.length : Int)) = false := decide_eq_false (by omega)
  rw [if_neg (by have := h9'.out; omega)] at HN
  clear c4
  by_cases c5 : fd ≠ 0
  · rw [if_pos c5] at HN
    obtain rfl := HN.out
    have d5 : (0 : Int) < (fd : Int) := by omega
    clear HN c5
    go_wp2_with (first | go_big_skip | (first | go_big_skip | ((with_reducible apply wpList_loadAll HO); exact rfl; exact rfl; (repeat (with_reducible (first | exact At.head _ | apply At.tail))); infer_instance; exact rfl; exact rfl; (simp only [Act.put, zA, zB, zC])) | ((with_reducible apply wpList_loadOne HO); exact rfl; exact rfl; (repeat (with_reducible (first | exact At.head _ | apply At.tail))); exact rfl; infer_instance; exact rfl; (simp only [Act.put, zA, zB, zC]))) | (first | ((with_reducible apply wpList_boxAgg _ HO rfl); exact rfl; exact rfl; exact rfl; clear HO; intro b4 w HO; (simp only [Act.put, zA, zB, zC])) | ((with_reducible apply wpList_allocAgg _ HO rfl); exact rfl; infer_instance; exact rfl; clear HO; intro b4 w HO; (simp only [Act.put, zA, zB, zC]))) | ((with_reducible apply wpList_storeAll HO); exact rfl; exact rfl; exact rfl; (repeat (with_reducible (first | exact At.head _ | apply At.tail))); infer_instance; exact rfl; exact rfl; exact rfl; exact rfl; clear HO; intro w HO; (simp only [Act.put])) | ((with_reducible apply wpList_storeOne HO); exact rfl; exact rfl; (first | (simp [Act.eval]; rfl) | exact rfl); exact rfl; (repeat (with_reducible (first | exact At.head _ | apply At.tail))); infer_instance; exact (by simp); (simp only [List.set_cons_succ, List.set_cons_zero]; rfl); exact rfl; clear HO; intro w HO; (simp only [Act.put])) | ((with_reducible apply wpList_loadPart HO); exact rfl; exact rfl; (repeat (with_reducible (first | exact At.head _ | apply At.tail))); infer_instance; exact (Nat.le_of_ble_eq_true rfl); (simp only [List.drop_succ_cons, List.drop_zero, List.take_succ_cons, List.take_zero]; rfl); exact rfl; (simp only [Act.put, zA, zB, zC])) | (go_at_call 73; go_must ((with_reducible refine (FN _ HO.grown).mono ?_); rintro e w ⟨rfl, hb⟩; replace HO := HO.call hb; clear hb)))
    refine bodyPost_ret (results_box HO rfl rfl (by (repeat (with_reducible (first | exact At.head _ | apply At.tail)))) inferInstance rfl rfl) rfl ?_
    exact ⟨rfl, HO.grown⟩
  rw [if_neg c5] at HN
  obtain rfl : fd = 0 := by omega
  clear c5
  by_cases c6 : 60 < S.L.length + 1
  · rw [if_pos c6] at HN
    obtain rfl := HN.out
    have d6 : (60 : Int) < (S.L.length : Int) + 1 := by omega
    clear HN c6
    go_wp2_with (first | go_big_skip | (first | go_big_skip | ((with_reducible apply wpList_loadAll HO); exact rfl; exact rfl; (repeat (with_reducible (first | exact At.head _ | apply At.tail))); infer_instance; exact rfl; exact rfl; (simp only [Act.put, zA, zB, zC])) | ((with_reducible apply wpList_loadOne HO); exact rfl; exact rfl; (repeat (with_reducible (first | exact At.head _ | apply At.tail))); exact rfl; infer_instance; exact rfl; (simp only [Act.put, zA, zB, zC]))) | (first | ((with_reducible apply wpList_boxAgg _ HO rfl); exact rfl; exact rfl; exact rfl; clear HO; intro b4 w HO; (simp only [Act.put, zA, zB, zC])) | ((with_reducible apply wpList_allocAgg _ HO rfl); exact rfl; infer_instance; exact rfl; clear HO; intro b4 w HO; (simp only [Act.put, zA, zB, zC]))) | ((with_reducible apply wpList_storeAll HO); exact rfl; exact rfl; exact rfl; (repeat (with_reducible (first | exact At.head _ | apply At.tail))); infer_instance; exact rfl; exact rfl; exact rfl; exact rfl; clear HO; intro w HO; (simp only [Act.put])) | ((with_reducible apply wpList_storeOne HO); exact rfl; exact rfl; (first | (simp [Act.eval]; rfl) | exact rfl); exact rfl; (repeat (with_reducible (first | exact At.head _ | apply At.tail))); infer_instance; exact (by simp); (simp only [List.set_cons_succ, List.set_cons_zero]; rfl); exact rfl; clear HO; intro w HO; (simp only [Act.put])) | ((with_reducible apply wpList_loadPart HO); exact rfl; exact rfl; (repeat (with_reducible (first | exact At.head _ | apply At.tail))); infer_instance; exact (Nat.le_of_ble_eq_true rfl); (simp only [List.drop_succ_cons, List.drop_zero, List.take_succ_cons, List.take_zero]; rfl); exact rfl; (simp only [Act.put, zA, zB, zC])) | (go_at_call 73; go_must ((with_reducible refine (FN _ HO.grown).mono ?_); rintro e w ⟨rfl, hb⟩; replace HO := HO.call hb; clear hb)))
    refine bodyPost_ret (results_box HO rfl rfl (by (repeat (with_reducible (first | exact At.head _ | apply At.tail)))) inferInstance rfl rfl) rfl ?_
    exact ⟨rfl, HO.grown⟩
  · rw [if_neg c6] at HN
    obtain rfl := HN.out
    have d6 : ¬ ((60 : Int) < (S.L.length : Int) + 1) := by omega
    clear HN c6
    go_wp2_with (first | go_big_skip | (first | go_big_skip | ((with_reducible apply wpList_loadAll HO); exact rfl; exact rfl; (repeat (with_reducible (first | exact At.head _ | apply At.tail))); infer_instance; exact rfl; exact rfl; (simp only [Act.put, zA, zB, zC])) | ((with_reducible apply wpList_loadOne HO); exact rfl; exact rfl; (repeat (with_reducible (first | exact At.head _ | apply At.tail))); exact rfl; infer_instance; exact rfl; (simp only [Act.put, zA, zB, zC]))) | (first | ((with_reducible apply wpList_boxAgg _ HO rfl); exact rfl; exact rfl; exact rfl; clear HO; intro b4 w HO; (simp only [Act.put, zA, zB, zC])) | ((with_reducible apply wpList_allocAgg _ HO rfl); exact rfl; infer_instance; exact rfl; clear HO; intro b4 w HO; (simp only [Act.put, zA, zB, zC]))) | ((with_reducible apply wpList_storeAll HO); exact rfl; exact rfl; exact rfl; (repeat (with_reducible (first | exact At.head _ | apply At.tail))); infer_instance; exact rfl; exact rfl; exact rfl; exact rfl; clear HO; intro w HO; (simp only [Act.put])) | ((with_reducible apply wpList_storeOne HO); exact rfl; exact rfl; (first | (simp [Act.eval]; rfl) | exact rfl); exact rfl; (repeat (with_reducible (first | exact At.head _ | apply At.tail))); infer_instance; exact (by simp); (simp only [List.set_cons_succ, List.set_cons_zero]; rfl); exact rfl; clear HO; intro w HO; (simp only [Act.put])) | ((with_reducible apply wpList_loadPart HO); exact rfl; exact rfl; (repeat (with_reducible (first | exact At.head _ | apply At.tail))); infer_instance; exact (Nat.le_of_ble_eq_true rfl); (simp only [List.drop_succ_cons, List.drop_zero, List.take_succ_cons, List.take_zero]; rfl); exact rfl; (simp only [Act.put, zA, zB, zC])) | (go_at_call 73; go_must ((with_reducible refine (FN _ HO.grown).mono ?_); rintro e w ⟨rfl, hb⟩; replace HO := HO.call hb; clear hb)))
    refine bodyPost_ret (results_box HO rfl rfl (by (repeat (with_reducible (first | exact At.head _ | apply At.tail)))) inferInstance rfl rfl) rfl ?_
    exact ⟨rfl, HO.grown⟩
end Go.Proofs.YtibabfedpdoofaaGreatDoor

/-
  The document's desk: an item refused, or approved, by walking its text; conditions: the core is one that entries come to.
  Which entries are too great, by walking the law's text; conditions: texts no longer than memory bears.
  Entries that came in, and which of them are too great, by walking the law's text; conditions: the entries lie in memory.
  The core that entries come to, and the document's: alike, by walking the law's text; conditions: the entries lie in memory, the laid tables.
  A slice literal of several structs; over any program; conditions: none.
  The chapter's desk, by walking the law's text; conditions: the laid tables.
  The plain law of DeskTwo and DeskOpen: what all written items come to, what is left; conditions: none. No program in sight.
  From a walk of a law to its row: what every law shares, over any program; conditions: none.
  From a walk of a law to its row, where tables and the map of the deeds' words are laid; conditions: none.
  Entries that came in, opened; conditions: none.
-/
import Derived.Test.YtibabfedpdoofaaGreatDoorRows
import Derived.ProofKit
import Derived.OpenShut
import Derived.Deep.DeepHandedRow
import Derived.Lib.LaidTab
import Derived.Test.YtibabfedpdoofaaGreatDoorTie
import Derived.Test.YtibabfedpdoofaaGreatDoorCards
import Derived.SevenTiedAt
import Derived.WideKeyElems2
import Derived.Deep.Slices
import Derived.Test.YtibabfedpdoofaaGreatDoorRa1
import Derived.Test.YtibabfedpdoofaaGreatDoorRa2
import Derived.Test.YtibabfedpdoofaaGreatDoorRa7
import Derived.Test.YtibabfedpdoofaaGreatDoorRa8
import Derived.Test.YtibabfedpdoofaaGreatDoorRa9
import Derived.Test.YtibabfedpdoofaaGreatDoorRa11
import Derived.Test.YtibabfedpdoofaaGreatDoorRa12
namespace Go.Proofs.YtibabfedpdoofaaGreatDoor
open Go.RowKit Go.Own Go.Maps

set_option maxHeartbeats 32000000 in
set_option maxRecDepth 100000 in
/-- What is wrong with an item that is to be approved, or refused. -/
theorem rdEndNo_any {W w : World} {M : List Ent} {t : Nat} {v u : Value} {D : DkS} {b : List UInt8} {n : Int} (c : Value) (ap : Bool) (HO : Own W w (rdPs t v u D ++ M)) (_hI : ItOk D.I) (hb : b.length ≤ maxLen) (hi : inI n = true) (hlen : D.I.length ≤ 1000) (hz : pendE D.I b n ≠ 0) :
    Calls Tryz.prog 54 #[.pointer (some ⟨t, 0, none⟩), c, .string ⟨b.toArray⟩, .int .i64 n, .bool ap] w fun e w' => e = .returned (.int .i64 (pendE D.I b n)) ∧ Own W w' (rdPs t v u D ++ M) := by
  have HO1 : Own W w (box t (.cells #[v, u] 108) :: row 111 4 v (D.I.map itemC) :: row 187 5 u (D.P.map pstC) :: M) := HO
  clear HO
  have HO := HO1
  clear HO1
  obtain ⟨⟨p, c9, hv⟩, hsome⟩ := HO.rowForm (t := 111) (k := 4) (v := v) (by (repeat (with_reducible (first | exact At.head _ | apply At.tail))))
  rw [List.length_map] at hv hsome
  subst hv
  have hn := inI_iff.1 hi
  unfold maxLen at hb
  cases hw : whoB b
  · rw [pend_who hw]
    unfold whoB at hw
    rw [decide_eq_false_iff_not] at hw
    clear hz hsome
    by_cases h0 : b.length = 0
    · have d1 : decide ((b.length : Int) < 1) = true := decide_eq_true (by omega)
      clear h0 hw
      go_enter Tryz.func54, Tryz.ntmps54
      go_wp2_with (fail)
      go_ret
      exact ⟨rfl, HO⟩
    · have d1 : decide ((b.length : Int) < 1) = false := decide_eq_false (by omega)
      have d2 : decide ((16 : Int) < (b.length : Int)) = true := decide_eq_true (by omega)
      clear h0 hw
      go_enter Tryz.func54, Tryz.ntmps54
      go_wp2_with (fail)
      go_ret
      exact ⟨rfl, HO⟩
  have hw1 := hw
  unfold whoB at hw1
  rw [decide_eq_true_eq] at hw1
  have d1 : decide ((b.length : Int) < 1) = false := decide_eq_false (by omega)
  have d2 : decide ((16 : Int) < (b.length : Int)) = false := decide_eq_false (by omega)
  clear hw1
  by_cases h1 : n < 1
  · rw [pend_none hw (.inl h1)]
    have d3 : decide (n < 1) = true := decide_eq_true h1
    clear hz hsome hw h1
    go_enter Tryz.func54, Tryz.ntmps54
    go_wp2_with (fail)
    go_ret
    exact ⟨rfl, HO⟩
  have d3 : decide (n < 1) = false := decide_eq_false h1
  by_cases h2 : (D.I.length : Int) < n
  · rw [pend_none hw (.inr h2)]
    have d4 : decide ((D.I.length : Int) < n) = true := decide_eq_true h2
    clear hz hsome hw h1 h2
    go_enter Tryz.func54, Tryz.ntmps54
    go_wp2_with ((((with_reducible apply wpList_loadOne HO); exact rfl; exact rfl; (repeat (with_reducible (exact At.head _))); exact rfl; infer_instance; exact rfl; (simp only [Act.put, zA, zB, zC]))))
    go_ret
    exact ⟨rfl, HO⟩
  have d4 : decide ((D.I.length : Int) < n) = false := decide_eq_false h2
  obtain ⟨j, hid⟩ : ∃ j : Nat, n = (j : Int) + 1 := ⟨(n - 1).toNat, by omega⟩
  have hj : j < D.I.length := by omega
  have hjI : (j : Int) < (D.I.length : Int) := by omega
  have e1 : IntKind.i64.wrap (n - 1) = (j : Int) := by rw [wrap_in (inI_iff.2 (by omega))]; omega
  obtain ⟨q, c8, hq⟩ := hsome (by omega)
  simp only [Value.slice.injEq] at hq
  obtain ⟨rfl, -, rfl⟩ := hq
  have HG : (D.I.map itemC)[j]? = some (itemC D.I[j]) := by simp [hj]
  have RW := fun (w' : World) (h1 : Own W w' (box t (.cells #[.slice (some q) D.I.length c9, u] 108) :: row 111 4 (.slice (some q) D.I.length c9) (D.I.map itemC) :: row 187 5 u (D.P.map pstC) :: M)) => h1.rowAt (.tail _ _ _ (.head _)) (itemC_len D.I) HG
  have hp := pend_at hw hid hj
  rw [hp] at hz ⊢
  clear hp HG h1 h2 hid hw
  generalize D.I[j] = z at *
  obtain ⟨zb, zo, za, zs⟩ := z
  unfold itemC at RW
  simp only at RW hz
  have hs : zs ≠ 1 := fun h => hz (if_pos h)
  rw [if_neg hs]
  have d5 : (zs != 1) = true := by rw [bne_iff_ne]; exact hs
  replace RW := Lib.hid RW
  clear hz hs
  go_enter Tryz.func54, Tryz.ntmps54
  go_wp2_with (first | (((with_reducible apply wpList_loadOne HO); exact rfl; exact rfl; (repeat (with_reducible (exact At.head _))); exact rfl; infer_instance; exact rfl; (simp only [Act.put, zA, zB, zC]))) | ((with_reducible apply wpList_storeAll HO); exact rfl; exact rfl; exact rfl; (repeat (with_reducible (exact At.head _))); infer_instance; exact rfl; exact rfl; exact rfl; exact rfl; clear HO; intro w HO; (simp only [Act.put])) | (((with_reducible apply wpList_allocAgg _ HO rfl); exact rfl; infer_instance; exact rfl; clear HO; intro b11 w HO; (simp only [Act.put, zA, zB, zC]))) | ((with_reducible apply wpList_loadAt HO); exact rfl; exact rfl; exact (fun w' h1 => RW.out w' h1); infer_instance; exact rfl; exact rfl; (simp only [Act.put, zA, zB, zC])))
  go_ret
  exact ⟨rfl, HO.tail⟩

theorem rd_set (I : List ItemS) {j : Nat} (hj : j < I.length) (s : Int) : (I.map itemC).set j ((itemC I[j]).set 3 (.int .i64 s)) = (I.set j { I[j] with s := s }).map itemC := (dk_set I hj s).symm
theorem rd_set2 (I : List ItemS) {j : Nat} (hj : j < I.length) (s : Int) : ((I.map itemC).set j ((itemC I[j]).set 3 (.int .i64 3))).set j (((itemC I[j]).set 3 (.int .i64 3)).set 3 (.int .i64 s)) = (I.set j { I[j] with s := s }).map itemC := by
  rw [List.set_set, ← rd_set I hj s]
  rfl
theorem rd_front (a b c t o p : Ent) (M : List Ent) : (a :: b :: c :: t :: o :: p :: M).Perm (t :: p :: a :: b :: c :: o :: M) := by
  have h1 : ([a, b, c] ++ (t :: (o :: p :: M))).Perm (t :: ([a, b, c] ++ (o :: p :: M))) := List.perm_middle
  have h2 : ([a, b, c, o] ++ (p :: M)).Perm (p :: ([a, b, c, o] ++ M)) := List.perm_middle
  exact h1.trans (h2.cons t)

set_option maxHeartbeats 16000000 in
set_option maxRecDepth 100000 in
/-- An item is refused. -/
theorem rdEndRef_any {W w : World} {M : List Ent} {t : Nat} {v u : Value} {D : DkS} {b : List UInt8} {n : Int} (c : Value) (HO : Own W w (rdPs t v u D ++ M)) (hb : b.length ≤ maxLen) (hi : inI n = true) (hlen : D.I.length ≤ 1000) (hz : pendE D.I b n = 0) :
    Calls Tryz.prog 54 #[.pointer (some ⟨t, 0, none⟩), c, .string ⟨b.toArray⟩, .int .i64 n, .bool false] w fun e w' => e = .returned (.int .i64 0) ∧ ∃ v', Own W w' (rdPs t v' u ⟨refuI D.I b n, D.P⟩ ++ M) := by
  have HO1 : Own W w (box t (.cells #[v, u] 108) :: row 111 4 v (D.I.map itemC) :: row 187 5 u (D.P.map pstC) :: M) := HO
  clear HO
  have HO := HO1
  clear HO1
  obtain ⟨hwho, j, hj, hn, hs1, hat⟩ := pend_zero hz
  obtain ⟨q, c9, hv⟩ := (HO.rowForm (t := 111) (k := 4) (v := v) (by (repeat (with_reducible (first | exact At.head _ | apply At.tail))))).2 (by rw [List.length_map]; omega)
  rw [List.length_map] at hv
  subst hv
  have hIn := inI_iff.1 hi
  have hjI : (j : Int) < (D.I.length : Int) := by omega
  have e1 : IntKind.i64.wrap (n - 1) = (j : Int) := by rw [show n - 1 = (j : Int) by omega, wrap_in (inI_iff.2 (by omega))]
  have HG : (D.I.map itemC)[j]? = some (itemC D.I[j]) := by simp [hj]
  have RW := Lib.hid (fun (w' : World) (Z : Ent) (h1 : Own W w' (Z :: box t (.cells #[.slice (some q) D.I.length c9, u] 108) :: row 111 4 (.slice (some q) D.I.length c9) (D.I.map itemC) :: row 187 5 u (D.P.map pstC) :: M)) => h1.rowAt (.tail _ _ _ (.tail _ _ _ (.head _))) (itemC_len D.I) HG)
  unfold whoB at hwho
  rw [decide_eq_true_eq] at hwho
  unfold maxLen at hb
  have d1 : decide ((b.length : Int) < 1) = false := decide_eq_false (by omega)
  have d2 : decide ((16 : Int) < (b.length : Int)) = false := decide_eq_false (by omega)
  have d3 : decide (n < 1) = false := decide_eq_false (by omega)
  have d4 : decide ((D.I.length : Int) < n) = false := decide_eq_false (by omega)
  have hlm0 : ([] : List (List Value)).length + (D.I.map itemC).length ≤ 1000000 := by rw [List.length_map]; simp; omega
  have HL := Lib.hid (itemC_len D.I)
  have H1 := Lib.hid (itemC_one D.I)
  replace HO := HO.nil 111 4
  rw [refu_at hn hz hj]
  have hset := Lib.hid (rd_set D.I hj 3)
  have HGG := Lib.hid HG
  have RW2 := Lib.hid (fun w' Z h1 => RW.out w' Z h1)
  clear HG hz hat hn hwho hi RW
  generalize D.I[j] = z at *
  obtain ⟨zb, zo, za, zs⟩ := z
  simp only at hs1
  subst hs1
  simp only [itemC] at RW2
  have RW := RW2
  go_enter Tryz.func54, Tryz.ntmps54
  go_upto_region 9 with (first | (((with_reducible apply wpList_loadOne HO); exact rfl; exact rfl; (repeat (with_reducible (first | exact At.head _ | apply At.tail))); exact rfl; infer_instance; exact rfl; (simp only [Act.put, zA, zB, zC]))) | ((with_reducible apply wpList_storeAll HO); exact rfl; exact rfl; exact rfl; (repeat (with_reducible (exact At.head _))); infer_instance; exact rfl; exact rfl; exact rfl; exact rfl; clear HO; intro w HO; (simp only [Act.put])) | (((with_reducible apply wpList_allocAgg _ HO rfl); exact rfl; infer_instance; exact rfl; clear HO; intro b11 w HO; (simp only [Act.put, zA, zB, zC]))) | ((with_reducible apply wpList_loadAt HO); exact rfl; exact rfl; exact (fun w' h1 => RW.out w' _ h1); infer_instance; exact rfl; exact rfl; (simp only [Act.put, zA, zB, zC])) | (((with_reducible apply wpList_appendAll HO); exact rfl; infer_instance; infer_instance; ((simp [Act.eval]; rfl)); exact rfl; exact (isL_of_owns (itemC_len D.I) (HO.has (row 111 4 (.slice (some q) D.I.length c9) (D.I.map itemC)) (by repeat (first | exact List.mem_cons_self | apply List.mem_cons_of_mem)))); exact HL.out; exact H1.out; intro _; (repeat (with_reducible (first | exact At.head _ | apply At.tail))); (omega); decide; exact rfl; clear HO; intro v2 w HO hv2; (simp only [Act.put, zA, zB, zC])); (obtain ⟨p2, n2, c2, rfl⟩ := hv2)))
  obtain ⟨⟨p3, c3, hv3⟩, hv4⟩ := HO.rowForm (t := 111) (k := 4) (v := .slice p2 n2 c2) (by (repeat (with_reducible (first | exact At.head _ | apply At.tail))))
  obtain ⟨q2, c4, hv5⟩ := hv4 (by simp; omega)
  cases hv5
  clear hv3
  simp only [List.nil_append, List.length_map] at HO ⊢
  go_wp2_with (first | ((with_reducible apply wpList_storeOne HO); exact rfl; exact rfl; ((simp [Act.eval]; rfl)); exact rfl; (repeat (with_reducible (first | exact At.head _ | apply At.tail))); infer_instance; exact (by simp); (simp only [List.set_cons_zero]; rfl); exact rfl; clear HO; intro w HO; (simp only [Act.put])) | ((with_reducible apply wpList_storeRow1 (q := q2) (i := j) (k := 4) (f := 3) (n := D.I.length) (c := c2) HO); exact rfl; exact rfl; ((simp [Act.eval]; rfl)); exact rfl; exact HGG.out; decide; (repeat (with_reducible (first | exact At.head _ | apply At.tail))); exact itemC_len _; infer_instance; exact rfl; clear HO; intro w HO; (simp only [Act.put])))
  go_ret
  refine ⟨rfl, .slice (some q2) D.I.length c2, ?_⟩
  show Own W w (box t (.cells #[.slice (some q2) D.I.length c2, u] 108) :: row 111 4 (.slice (some q2) D.I.length c2) ((D.I.set j { b := zb, o := zo, a := za, s := 3 }).map itemC) :: row 187 5 u (D.P.map pstC) :: M)
  rw [← hset.out]
  exact HO.tail.swap.sub (.cons_cons _ (.cons_cons _ (.cons _ (List.Sublist.refl _))))

set_option maxHeartbeats 64000000 in
set_option maxRecDepth 100000 in
/-- An item is approved. -/
theorem rdEndApp_any {W w : World} {M : List Ent} {t : Nat} {v u : Value} {D : DkS} {x : RcA} {S : CoS} {A : InS} {b : List UInt8} {n : Int} (HO : Own W w (rdPs t v u D ++ M)) (hc : RcM W M x S A) (hI : ItOk D.I) (hBk : Bk D.P) (hwf : ∀ p ∈ D.P, WfP p) (hB : Bk S.P) (hs : ∀ p ∈ S.P, smallOk p) (hl : S.P.length ≤ 100000) (hb : b.length ≤ maxLen) (hi : inI n = true) (hlen : D.I.length ≤ 1000) (hlp : D.P.length ≤ 100000) (hz : pendE D.I b n = 0) :
    Calls Tryz.prog 54 #[.pointer (some ⟨t, 0, none⟩), .pointer (some ⟨x.r, 0, none⟩), .string ⟨b.toArray⟩, .int .i64 n, .bool true] w fun e w' => e = .returned (.int .i64 (apprE S D b n)) ∧ ∃ v' u', Own W w' (rdPs t v' u' (apprD S D b n) ++ M) := by
  have HO1 : Own W w (box t (.cells #[v, u] 108) :: row 111 4 v (D.I.map itemC) :: row 187 5 u (D.P.map pstC) :: M) := HO
  clear HO
  have HO := HO1
  clear HO1
  obtain ⟨hwho, j, hj, hn, hs1, hat⟩ := pend_zero hz
  obtain ⟨q, c9, hv⟩ := (HO.rowForm (t := 111) (k := 4) (v := v) (by (repeat (with_reducible (first | exact At.head _ | apply At.tail))))).2 (by rw [List.length_map]; omega)
  rw [List.length_map] at hv
  subst hv
  have hIn := inI_iff.1 hi
  have hjI : (j : Int) < (D.I.length : Int) := by omega
  have e1 : IntKind.i64.wrap (n - 1) = (j : Int) := by rw [show n - 1 = (j : Int) by omega, wrap_in (inI_iff.2 (by omega))]
  have HG : (D.I.map itemC)[j]? = some (itemC D.I[j]) := by simp [hj]
  have RW := Lib.hid (fun (w' : World) (Z : Ent) (h1 : Own W w' (Z :: box t (.cells #[.slice (some q) D.I.length c9, u] 108) :: row 111 4 (.slice (some q) D.I.length c9) (D.I.map itemC) :: row 187 5 u (D.P.map pstC) :: M)) => h1.rowAt (.tail _ _ _ (.tail _ _ _ (.head _))) (itemC_len D.I) HG)
  unfold whoB at hwho
  rw [decide_eq_true_eq] at hwho
  unfold maxLen at hb
  have d1 : decide ((b.length : Int) < 1) = false := decide_eq_false (by omega)
  have d2 : decide ((16 : Int) < (b.length : Int)) = false := decide_eq_false (by omega)
  have d3 : decide (n < 1) = false := decide_eq_false (by omega)
  have d4 : decide ((D.I.length : Int) < n) = false := decide_eq_false (by omega)
  have hlm0 : ([] : List (List Value)).length + (D.I.map itemC).length ≤ 1000000 := by rw [List.length_map]; simp; omega
  have HL := Lib.hid (itemC_len D.I)
  have H1 := Lib.hid (itemC_one D.I)
  replace HO := HO.nil 111 4
  have hE := appr_at (S := S) hz hat
  have hNo := apprD_no (S := S) (D := D) (b := b) (n := n)
  have hYe := fun h => apprD_yes (S := S) (D := D) (b := b) (n := n) h hat
  have hS2 : setI D.I n D.I[j] 2 = D.I.set j { D.I[j] with s := 2 } := by unfold setI; rw [show (n - 1).toNat = j by omega]
  obtain ⟨hzo, hza, -, -⟩ := hI _ (List.getElem_mem hj)
  have hapx : apprX S D b n D.I[j] = if D.I[j].b = b then 91 else if (leftF D.I (bal S.P 1 D.I[j].o) D.I[j].o writS).2 = true ∧ withinB D.I[j].a (leftF D.I (bal S.P 1 D.I[j].o) D.I[j].o writS).1 = true then (if D.I[j].a = -9223372036854775808 then 90 else postE D.P (wPst n D.I[j])) else 90 := rfl
  rw [hapx] at hE
  rw [hS2] at hYe
  have PT := fun (w : World) => refPut01_any (n := n) (by omega) hIn.2 w
  have hix : (⟨(Lib.itoa n).toArray⟩ : ByteArray).size ≤ 21 := by
    have := Lib.itoa_length_le n hIn.1 hIn.2
    show (Lib.itoa n).toArray.size ≤ 21
    simpa using this
  have hwk : wK n = (⟨#[119]⟩ : ByteArray) ++ ⟨(Lib.itoa n).toArray⟩ := rfl
  have RA := Lib.hid (fun (w : World) (X : List Ent) (h : Own W w (X ++ (box t (.cells #[.slice (some q) D.I.length c9, u] 108) :: row 111 4 (.slice (some q) D.I.length c9) (D.I.map itemC) :: row 187 5 u (D.P.map pstC) :: M))) => (Own.rdAt h (fun e he => List.mem_append_right X (List.mem_append_left M he)) : RdAt w t (.slice (some q) D.I.length c9) u D))
  have CA := Lib.hid (fun (w : World) (X : List Ent) (h : Own W w (X ++ (box t (.cells #[.slice (some q) D.I.length c9, u] 108) :: row 111 4 (.slice (some q) D.I.length c9) (D.I.map itemC) :: row 187 5 u (D.P.map pstC) :: M))) => hc w _ h (fun e he => List.mem_append_right _ (.tail _ (.tail _ (.tail _ he)))))
  have LW := Lib.hid (fun (w : World) (h : RdAt w t (.slice (some q) D.I.length c9) u D) (h2 : RcAt w x S A) => rdLeftWrit_any h h2 hI hB hs hl (o := D.I[j].o))
  have PO := Lib.hid (fun p (hp : WfP p) (w : World) (M' : List Ent) (h : Own W w (rdB t (.slice (some q) D.I.length c9) u :: row 187 5 u (D.P.map pstC) :: M')) => rdPost_own p h hBk hwf hp hlp)
  have hpn := Lib.hid (fun p => postL_no (l := D.P) (p := p))
  have hset := rd_set2 D.I hj 2
  have HG2 := Lib.hid (show ((D.I.map itemC).set j ((itemC D.I[j]).set 3 (.int .i64 3)))[j]? = some ((itemC D.I[j]).set 3 (.int .i64 3)) by rw [List.getElem?_set_self (by simpa using hj)])
  have HL2 := Lib.hid (show ∀ l ∈ (D.I.map itemC).set j ((itemC D.I[j]).set 3 (.int .i64 3)), l.length = 4 from fun l hl9 => by
    rcases List.mem_or_eq_of_mem_set hl9 with h | rfl
    · exact itemC_len D.I l h
    · rfl)
  have hg := leftF_in D.I D.I[j].o writS (hB.bal_in 1 D.I[j].o)
  have SMx := fun w => some_any D.I[j].a (leftF D.I (bal S.P 1 D.I[j].o) D.I[j].o writS).1 w
  have hwp := Lib.hid (wPst_eq n)
  have HGG := Lib.hid HG
  have RW2 := Lib.hid (fun w' Z h1 => RW.out w' Z h1)
  clear HG hz hat hn hwho hi RW hapx hS2 hc hI hB hs hBk hwf
  generalize apprE S D b n = ex at *
  generalize apprD S D b n = DX at *
  generalize D.I[j] = z at *
  obtain ⟨zb, zo, za, zs⟩ := z
  simp only at hs1 hE hYe hzo hza LW SMx hg
  subst hs1
  simp only [itemC] at RW2
  have RW := RW2
  have HE := Lib.hid hE
  have HN := Lib.hid hNo
  have HY := Lib.hid hYe
  have HS := Lib.hid hset
  have HP := hwp
  have HK := Lib.hid hwk
  clear hE hNo hYe hset hwk hwp
  generalize leftF D.I (bal S.P 1 zo) zo writS = g at *
  obtain ⟨g1, g2⟩ := g
  simp only at LW SMx HE
  by_cases hby : zb = b
  · have hD : (zb == b) = true := by simpa using hby
    rw [if_pos hby] at HE
    obtain rfl := HE.out
    obtain rfl : D = DX := (HN.out (by decide)).symm
    clear HE HN HY HS HP HK PO hby SMx LW
    go_enter Tryz.func54, Tryz.ntmps54
    go_upto_region 9 with (first | (((with_reducible apply wpList_loadOne HO); exact rfl; exact rfl; (repeat (with_reducible (first | exact At.head _ | apply At.tail))); exact rfl; infer_instance; exact rfl; (simp only [Act.put, zA, zB, zC]))) | ((with_reducible apply wpList_storeAll HO); exact rfl; exact rfl; exact rfl; (repeat (with_reducible (exact At.head _))); infer_instance; exact rfl; exact rfl; exact rfl; exact rfl; clear HO; intro w HO; (simp only [Act.put])) | (((with_reducible apply wpList_allocAgg _ HO rfl); exact rfl; infer_instance; exact rfl; clear HO; intro b11 w HO; (simp only [Act.put, zA, zB, zC]))) | ((with_reducible apply wpList_loadAt HO); exact rfl; exact rfl; exact (fun w' h1 => RW.out w' _ h1); infer_instance; exact rfl; exact rfl; (simp only [Act.put, zA, zB, zC])) | (((with_reducible apply wpList_appendAll HO); exact rfl; infer_instance; infer_instance; ((simp [Act.eval]; rfl)); exact rfl; exact (isL_of_owns (itemC_len D.I) (HO.has (row 111 4 (.slice (some q) D.I.length c9) (D.I.map itemC)) (by repeat (first | exact List.mem_cons_self | apply List.mem_cons_of_mem)))); exact HL.out; exact H1.out; intro _; (repeat (with_reducible (first | exact At.head _ | apply At.tail))); (omega); decide; exact rfl; clear HO; intro v2 w HO hv2; (simp only [Act.put, zA, zB, zC])); (obtain ⟨p2, n2, c2, rfl⟩ := hv2)))
    obtain ⟨⟨p3, c3, hv3⟩, hv4⟩ := HO.rowForm (t := 111) (k := 4) (v := .slice p2 n2 c2) (by (repeat (with_reducible (first | exact At.head _ | apply At.tail))))
    obtain ⟨q2, c4, hv5⟩ := hv4 (by simp; omega)
    cases hv5
    clear hv3
    simp only [List.nil_append, List.length_map] at HO ⊢
    go_wp2_with (first | (((with_reducible apply wpList_loadOne HO); exact rfl; exact rfl; (repeat (with_reducible (exact At.head _))); exact rfl; infer_instance; exact rfl; (simp only [Act.put, zA, zB, zC]))) | ((with_reducible apply wpList_storeRow1 (q := q2) (i := j) (k := 4) (f := 3) (n := D.I.length) (c := c2) HO); exact rfl; exact rfl; ((simp [Act.eval]; rfl)); exact rfl; exact HGG.out; decide; (repeat (with_reducible (first | exact At.head _ | apply At.tail))); exact itemC_len _; infer_instance; exact rfl; clear HO; intro w HO; (simp only [Act.put])))
    go_ret
    exact ⟨rfl, _, _, HO.tail.tail⟩
  rw [if_neg hby] at HE
  have hD : (zb == b) = false := by simpa using hby
  cases g2
  · rw [if_neg (by simp)] at HE
    obtain rfl := HE.out
    obtain rfl : D = DX := (HN.out (by decide)).symm
    clear HE HN HY HS HP HK PO hby SMx
    go_enter Tryz.func54, Tryz.ntmps54
    go_upto_region 9 with (first | (((with_reducible apply wpList_loadOne HO); exact rfl; exact rfl; (repeat (with_reducible (first | exact At.head _ | apply At.tail))); exact rfl; infer_instance; exact rfl; (simp only [Act.put, zA, zB, zC]))) | ((with_reducible apply wpList_storeAll HO); exact rfl; exact rfl; exact rfl; (repeat (with_reducible (exact At.head _))); infer_instance; exact rfl; exact rfl; exact rfl; exact rfl; clear HO; intro w HO; (simp only [Act.put])) | (((with_reducible apply wpList_allocAgg _ HO rfl); exact rfl; infer_instance; exact rfl; clear HO; intro b11 w HO; (simp only [Act.put, zA, zB, zC]))) | ((with_reducible apply wpList_loadAt HO); exact rfl; exact rfl; exact (fun w' h1 => RW.out w' _ h1); infer_instance; exact rfl; exact rfl; (simp only [Act.put, zA, zB, zC])) | (((with_reducible apply wpList_appendAll HO); exact rfl; infer_instance; infer_instance; ((simp [Act.eval]; rfl)); exact rfl; exact (isL_of_owns (itemC_len D.I) (HO.has (row 111 4 (.slice (some q) D.I.length c9) (D.I.map itemC)) (by repeat (first | exact List.mem_cons_self | apply List.mem_cons_of_mem)))); exact HL.out; exact H1.out; intro _; (repeat (with_reducible (first | exact At.head _ | apply At.tail))); (omega); decide; exact rfl; clear HO; intro v2 w HO hv2; (simp only [Act.put, zA, zB, zC])); (obtain ⟨p2, n2, c2, rfl⟩ := hv2)))
    obtain ⟨⟨p3, c3, hv3⟩, hv4⟩ := HO.rowForm (t := 111) (k := 4) (v := .slice p2 n2 c2) (by (repeat (with_reducible (first | exact At.head _ | apply At.tail))))
    obtain ⟨q2, c4, hv5⟩ := hv4 (by simp; omega)
    cases hv5
    clear hv3
    simp only [List.nil_append, List.length_map] at HO ⊢
    go_wp2_with (first | go_big_skip | (((with_reducible apply wpList_loadOne HO); exact rfl; exact rfl; (repeat (with_reducible (exact At.head _))); exact rfl; infer_instance; exact rfl; (simp only [Act.put, zA, zB, zC]))) | ((with_reducible apply wpList_storeRow1 (q := q2) (i := j) (k := 4) (f := 3) (n := D.I.length) (c := c2) HO); exact rfl; exact rfl; ((simp [Act.eval]; rfl)); exact rfl; exact HGG.out; decide; (repeat (with_reducible (first | exact At.head _ | apply At.tail))); exact itemC_len _; infer_instance; exact rfl; clear HO; intro w HO; (simp only [Act.put])) | (go_at_call 113; go_must ((with_reducible refine (LW.out _ (RA.out _ [_, _] HO) (CA.out _ [_, _] HO)).mono ?_); rintro e w ⟨rfl, hb⟩; replace HO := HO.call hb; clear hb)))
    go_ret
    exact ⟨rfl, _, _, HO.tail.tail⟩
  cases hw : withinB za g1
  · rw [if_neg (by rw [hw]; simp)] at HE
    rw [hw] at SMx
    obtain rfl := HE.out
    obtain rfl : D = DX := (HN.out (by decide)).symm
    clear HE HN HY HS HP HK PO hby hw
    go_enter Tryz.func54, Tryz.ntmps54
    go_upto_region 9 with (first | (((with_reducible apply wpList_loadOne HO); exact rfl; exact rfl; (repeat (with_reducible (first | exact At.head _ | apply At.tail))); exact rfl; infer_instance; exact rfl; (simp only [Act.put, zA, zB, zC]))) | ((with_reducible apply wpList_storeAll HO); exact rfl; exact rfl; exact rfl; (repeat (with_reducible (exact At.head _))); infer_instance; exact rfl; exact rfl; exact rfl; exact rfl; clear HO; intro w HO; (simp only [Act.put])) | (((with_reducible apply wpList_allocAgg _ HO rfl); exact rfl; infer_instance; exact rfl; clear HO; intro b11 w HO; (simp only [Act.put, zA, zB, zC]))) | ((with_reducible apply wpList_loadAt HO); exact rfl; exact rfl; exact (fun w' h1 => RW.out w' _ h1); infer_instance; exact rfl; exact rfl; (simp only [Act.put, zA, zB, zC])) | (((with_reducible apply wpList_appendAll HO); exact rfl; infer_instance; infer_instance; ((simp [Act.eval]; rfl)); exact rfl; exact (isL_of_owns (itemC_len D.I) (HO.has (row 111 4 (.slice (some q) D.I.length c9) (D.I.map itemC)) (by repeat (first | exact List.mem_cons_self | apply List.mem_cons_of_mem)))); exact HL.out; exact H1.out; intro _; (repeat (with_reducible (first | exact At.head _ | apply At.tail))); (omega); decide; exact rfl; clear HO; intro v2 w HO hv2; (simp only [Act.put, zA, zB, zC])); (obtain ⟨p2, n2, c2, rfl⟩ := hv2)))
    obtain ⟨⟨p3, c3, hv3⟩, hv4⟩ := HO.rowForm (t := 111) (k := 4) (v := .slice p2 n2 c2) (by (repeat (with_reducible (first | exact At.head _ | apply At.tail))))
    obtain ⟨q2, c4, hv5⟩ := hv4 (by simp; omega)
    cases hv5
    clear hv3
    simp only [List.nil_append, List.length_map] at HO ⊢
    go_wp2_with (first | (((with_reducible apply wpList_loadOne HO); exact rfl; exact rfl; (repeat (with_reducible (exact At.head _))); exact rfl; infer_instance; exact rfl; (simp only [Act.put, zA, zB, zC]))) | ((with_reducible apply wpList_storeRow1 (q := q2) (i := j) (k := 4) (f := 3) (n := D.I.length) (c := c2) HO); exact rfl; exact rfl; ((simp [Act.eval]; rfl)); exact rfl; exact HGG.out; decide; (repeat (with_reducible (first | exact At.head _ | apply At.tail))); exact itemC_len _; infer_instance; exact rfl; clear HO; intro w HO; (simp only [Act.put])) | (go_at_call 113; go_must ((with_reducible refine (LW.out _ (RA.out _ [_, _] HO) (CA.out _ [_, _] HO)).mono ?_); rintro e w ⟨rfl, hb⟩; replace HO := HO.call hb; clear hb)) | (go_at_call 114; go_must ((with_reducible refine (SMx _).mono ?_); rintro e w ⟨rfl, hb⟩; replace HO := HO.call hb; clear hb)))
    go_ret
    exact ⟨rfl, _, _, HO.tail.tail⟩
  rw [if_pos ⟨rfl, hw⟩] at HE
  rw [hw] at SMx
  clear hw hby
  obtain ⟨wid, hwid⟩ : ∃ x, x = wK n := ⟨_, rfl⟩
  rw [← hwid] at HK HP
  generalize (⟨(Lib.itoa n).toArray⟩ : ByteArray) = x1 at *
  have hws : wid.size ≤ maxLen := by
    rw [HK.out, ByteArray.size_append]
    show 1 + x1.size ≤ maxLen
    unfold maxLen
    omega
  have a1 : ¬ (9223372036854775807 < (⟨#[119]⟩ : ByteArray).size + x1.size) := by show ¬ (9223372036854775807 < 1 + x1.size); omega
  have a1' : ¬ (9223372036854775807 < 1 + x1.size) := by omega
  replace hwid := Lib.hid hwid
  go_enter Tryz.func54, Tryz.ntmps54
  go_upto_region 9 with (first | (((with_reducible apply wpList_loadOne HO); exact rfl; exact rfl; (repeat (with_reducible (first | exact At.head _ | apply At.tail))); exact rfl; infer_instance; exact rfl; (simp only [Act.put, zA, zB, zC]))) | ((with_reducible apply wpList_storeAll HO); exact rfl; exact rfl; exact rfl; (repeat (with_reducible (exact At.head _))); infer_instance; exact rfl; exact rfl; exact rfl; exact rfl; clear HO; intro w HO; (simp only [Act.put])) | (((with_reducible apply wpList_allocAgg _ HO rfl); exact rfl; infer_instance; exact rfl; clear HO; intro b11 w HO; (simp only [Act.put, zA, zB, zC]))) | ((with_reducible apply wpList_loadAt HO); exact rfl; exact rfl; exact (fun w' h1 => RW.out w' _ h1); infer_instance; exact rfl; exact rfl; (simp only [Act.put, zA, zB, zC])) | (((with_reducible apply wpList_appendAll HO); exact rfl; infer_instance; infer_instance; ((simp [Act.eval]; rfl)); exact rfl; exact (isL_of_owns (itemC_len D.I) (HO.has (row 111 4 (.slice (some q) D.I.length c9) (D.I.map itemC)) (by repeat (first | exact List.mem_cons_self | apply List.mem_cons_of_mem)))); exact HL.out; exact H1.out; intro _; (repeat (with_reducible (first | exact At.head _ | apply At.tail))); (omega); decide; exact rfl; clear HO; intro v2 w HO hv2; (simp only [Act.put, zA, zB, zC])); (obtain ⟨p2, n2, c2, rfl⟩ := hv2)))
  obtain ⟨⟨p3, c3, hv3⟩, hv4⟩ := HO.rowForm (t := 111) (k := 4) (v := .slice p2 n2 c2) (by (repeat (with_reducible (first | exact At.head _ | apply At.tail))))
  obtain ⟨q2, c4, hv5⟩ := hv4 (by simp; omega)
  cases hv5
  clear hv3
  simp only [List.nil_append, List.length_map] at HO ⊢
  go_upto_region 16 with (first | (((with_reducible apply wpList_loadOne HO); exact rfl; exact rfl; (repeat (with_reducible (exact At.head _))); exact rfl; infer_instance; exact rfl; (simp only [Act.put, zA, zB, zC]))) | ((with_reducible apply wpList_storeRow1 (q := q2) (i := j) (k := 4) (f := 3) (n := D.I.length) (c := c2) HO); exact rfl; exact rfl; ((simp [Act.eval]; rfl)); exact rfl; exact HGG.out; decide; (repeat (with_reducible (first | exact At.head _ | apply At.tail))); exact itemC_len _; infer_instance; exact rfl; clear HO; intro w HO; (simp only [Act.put])) | (go_at_call 113; go_must ((with_reducible refine (LW.out _ (RA.out _ [_, _] HO) (CA.out _ [_, _] HO)).mono ?_); rintro e w ⟨rfl, hb⟩; replace HO := HO.call hb; clear hb)) | (go_at_call 114; go_must ((with_reducible refine (SMx _).mono ?_); rintro e w ⟨rfl, hb⟩; replace HO := HO.call hb; clear hb)))
  clear RA CA LW SMx RW RW2 HGG HL H1
  generalize (D.I.map itemC).set j ((itemC ⟨zb, zo, za, 1⟩).set 3 (.int .i64 3)) = IX at *
  go_cut [15] (fun x wx => ∃ b15, x = .pointer (some ⟨b15, 0, none⟩) ∧ Own W wx (box b15 (.cells #[.string wid, .int .i64 zo, .int .i64 4, .int .i64 1, .int .i64 za] 187) :: box b11 (.cells #[.string ⟨zb.toArray⟩, .int .i64 zo, .int .i64 za, .int .i64 1] 111) :: row 111 4 (.slice (some q2) D.I.length c2) IX :: box t (.cells #[.slice (some q) D.I.length c9, u] 108) :: row 111 4 (.slice (some q) D.I.length c9) (D.I.map itemC) :: row 187 5 u (D.P.map pstC) :: M))
  case first =>
    refine region_tree ([box b11 (.cells #[.string ⟨zb.toArray⟩, .int .i64 zo, .int .i64 za, .int .i64 1] 111)]) [(0, true), (3, true), (4, true), (5, true), (6, true), (1, false), (2, true), (7, true), (8, false), (9, false)] ((.fork [(0, true), (3, true), (4, true), (5, true), (6, true)] 1 8 (.fin [(2, true), (7, true), (8, false), (9, false)]) (.fin [(1, false), (2, true), (7, true), (9, false)]))) HO (by with_reducible (repeat (first | exact List.nil_sublist _ | apply List.Sublist.cons_cons))) (by kernel_rfl) (by kernel_rfl) ?_
    clear HO
    intro w HO
    refine wpS_fork ?_
    repeat (first | ((with_reducible apply wpSched_loadOne); exact rfl; exact rfl; exact rfl; (repeat (with_reducible (exact At.head _))); exact rfl; infer_instance; exact rfl; (simp only [Act.put, zA, zB, zC])) | ((with_reducible apply wpSched_pure); exact rfl; exact rfl; (intro w'; go_simp; try with_reducible rfl); (simp only [Act.put, zA, zB, zC])))
    refine fork_end rfl rfl ?_ ?_
    · go_wp2_with ((go_at_call 115; go_must ((with_reducible refine (PT _).mono ?_); rintro e w ⟨rfl, hb⟩; replace HO := HO.call hb; clear hb)))
      refine thenQ_keep (HO.held (by with_reducible (repeat (first | exact List.nil_sublist _ | apply List.Sublist.cons_cons)))) ?_
      refine wpS_fin ?_
      repeat (((with_reducible apply wpSched_pure); exact rfl; exact rfl; (intro w'; go_simp; try with_reducible rfl); (simp only [Act.put, zA, zB, zC])))
      ((with_reducible apply wpSched_loud); exact rfl; (((with_reducible apply wpList_allocAgg _ HO rfl); exact rfl; infer_instance; exact rfl; clear HO; intro b15 w HO; (simp only [Act.put, zA, zB, zC]))))
      refine wpList_nil (thenQ_keep (HO.held (by with_reducible (repeat (first | exact List.nil_sublist _ | apply List.Sublist.cons_cons | apply List.Sublist.cons)))) ?_)
      ((with_reducible apply wpSched_loud); exact rfl; ((with_reducible apply wpList_storeAll HO); exact rfl; exact rfl; exact rfl; (repeat (with_reducible (exact At.head _))); infer_instance; exact rfl; exact rfl; exact rfl; exact rfl; clear HO; intro w HO; (simp only [Act.put])))
      refine wpList_nil (thenQ_keep (HO.held (by with_reducible (repeat (first | exact List.nil_sublist _ | apply List.Sublist.cons_cons | apply List.Sublist.cons)))) ?_)
      repeat ((with_reducible apply wpSched_pure); exact rfl; exact rfl; (intro w'; go_simp; try with_reducible rfl); (simp only [Act.put, zA, zB, zC]))
      refine wpSched_end ?_
      go_wp2_with fail
      go_meet
      exact ⟨b15, rfl, by rw [HK.out]; exact HO⟩
    · (((with_reducible apply wpList_allocAgg _ HO rfl); exact rfl; infer_instance; exact rfl; clear HO; intro b15 w HO; (simp only [Act.put, zA, zB, zC])))
      refine wpList_nil (thenQ_keep (HO.held (by with_reducible (repeat (first | exact List.nil_sublist _ | apply List.Sublist.cons_cons | apply List.Sublist.cons)))) ?_)
      refine wpS_fin ?_
      ((with_reducible apply wpSched_loud); exact rfl; go_wp2_with ((go_at_call 115; go_must ((with_reducible refine (PT _).mono ?_); rintro e w ⟨rfl, hb⟩; replace HO := HO.call hb; clear hb))))
      refine thenQ_keep (HO.held (by with_reducible (repeat (first | exact List.nil_sublist _ | apply List.Sublist.cons_cons | apply List.Sublist.cons)))) ?_
      repeat (((with_reducible apply wpSched_pure); exact rfl; exact rfl; (intro w'; go_simp; try with_reducible rfl); (simp only [Act.put, zA, zB, zC])))
      ((with_reducible apply wpSched_loud); exact rfl; ((with_reducible apply wpList_storeAll HO); exact rfl; exact rfl; exact rfl; (repeat (with_reducible (exact At.head _))); infer_instance; exact rfl; exact rfl; exact rfl; exact rfl; clear HO; intro w HO; (simp only [Act.put])))
      refine wpList_nil (thenQ_keep (HO.held (by with_reducible (repeat (first | exact List.nil_sublist _ | apply List.Sublist.cons_cons | apply List.Sublist.cons)))) ?_)
      repeat ((with_reducible apply wpSched_pure); exact rfl; exact rfl; (intro w'; go_simp; try with_reducible rfl); (simp only [Act.put, zA, zB, zC]))
      refine wpSched_end ?_
      go_wp2_with fail
      go_meet
      exact ⟨b15, rfl, by rw [HK.out]; exact HO⟩
  clear HO HK a1 a1' PT hix
  obtain ⟨b15, rfl, HO⟩ := hcut
  by_cases hneg : za < 0
  · have NG := fun w => rSub_any (a := 0) rfl hza w
    by_cases hmn : za = -9223372036854775808
    · rw [if_pos hmn] at HE
      obtain rfl := HE.out
      obtain rfl := HN.out (by decide)
      rw [subI_no (by rw [hmn]; decide)] at NG
      clear HE HN HY HS HP PO hmn
      go_wp2_with (first | (((with_reducible apply wpList_loadOne HO); exact rfl; exact rfl; (repeat (with_reducible (first | exact At.head _ | apply At.tail))); exact rfl; infer_instance; exact rfl; (simp only [Act.put, zA, zB, zC]))) | (go_at_call 116; go_must ((with_reducible refine (NG _).mono ?_); rintro e w ⟨rfl, hb⟩; replace HO := HO.call hb; clear hb)))
      go_ret
      exact ⟨rfl, _, _, HO.tail.tail.tail⟩
    rw [if_neg hmn] at HE
    have hn1 : subI 0 za = (-za, true) := by rw [subI_yes (inI_iff.2 (by have := inI_iff.1 hza; omega))]; rw [Int.zero_sub]
    rw [hn1] at NG
    have hbig : -9223372036854775808 < za := by have := inI_iff.1 hza; omega
    clear hn1 hmn
    have hsg : za < 0 := hneg
    have hp := HP.out zb zo za 1
    rw [if_pos hsg] at hp
    rw [hp] at HE HY
    clear HP hp
    have PO1 := Lib.hid (PO.out ⟨wid, zo, 1, 4, (-za)⟩ ⟨hzo, rfl, rfl, (show inI (-za) = true from inI_iff.2 (by have := inI_iff.1 hza; omega)), hws⟩)
    have hpn1 := Lib.hid (hpn.out ⟨wid, zo, 1, 4, (-za)⟩)
    simp only [pstV, pstC] at PO1
    clear PO hpn
    generalize postE D.P ⟨wid, zo, 1, 4, (-za)⟩ = pe at *
    generalize postL D.P ⟨wid, zo, 1, 4, (-za)⟩ = pl at *
    obtain rfl := HE.out
    go_upto_region 22 with (first | (((with_reducible apply wpList_loadOne HO); exact rfl; exact rfl; (repeat (with_reducible (first | exact At.head _ | apply At.tail))); exact rfl; infer_instance; exact rfl; (simp only [Act.put, zA, zB, zC]))) | ((with_reducible apply wpList_storeOne HO); exact rfl; exact rfl; ((simp [Act.eval]; rfl)); exact rfl; (repeat (with_reducible (exact At.head _))); infer_instance; exact (by simp); (simp only [List.set_cons_succ, List.set_cons_zero]; rfl); exact rfl; clear HO; intro w HO; (simp only [Act.put])) | (go_at_call 116; go_must ((with_reducible refine (NG _).mono ?_); rintro e w ⟨rfl, hb⟩; replace HO := HO.call hb; clear hb)))
    refine region_sched2 ([box b15 (.cells #[.string wid, .int .i64 zo, .int .i64 1, .int .i64 4, .int .i64 (-za)] 187)]) [(0, true), (1, true), (2, true), (3, true), (4, false), (5, true)] HO (by with_reducible (repeat (first | exact List.nil_sublist _ | apply List.Sublist.cons_cons))) (by kernel_rfl) (by kernel_rfl) ?_
    clear HO
    intro w HO
    repeat (first | ((with_reducible apply wpSched_loadAll); exact rfl; exact rfl; exact rfl; (repeat (with_reducible (exact At.head _))); infer_instance; exact rfl; exact rfl; (simp only [Act.put, zA, zB, zC])) | ((with_reducible apply wpSched_pure); exact rfl; exact rfl; (intro w'; go_simp; try with_reducible rfl); (simp only [Act.put, zA, zB, zC])))
    ((with_reducible apply wpSched_loud); exact rfl; go_wp2_with ((go_at_call 117; go_must ((have h9 := PO1.out _ _ (HO.perm (rd_front _ _ _ _ _ _ _))); (with_reducible refine h9.mono ?_); clear h9 HO; rintro e w ⟨rfl, u9, HO⟩))))
    refine thenQ_free (by kernel_rfl) ?_
    repeat ((with_reducible apply wpSched_pure); exact rfl; exact rfl; (intro w'; go_simp; try with_reducible rfl); (simp only [Act.put, zA, zB, zC]))
    refine wpSched_end ?_
    unfold rdB at HO
    by_cases hpe : ex = 0
    · subst hpe
      obtain rfl := HY.out rfl
      clear HN HY hpn1
      go_wp2_with (first | ((with_reducible apply wpList_storeOne HO); exact rfl; exact rfl; ((simp [Act.eval]; rfl)); exact rfl; (repeat (with_reducible (first | exact At.head _ | apply At.tail))); infer_instance; exact (by simp); (simp only [List.set_cons_zero]; rfl); exact rfl; clear HO; intro w HO; (simp only [Act.put])) | ((with_reducible apply wpList_storeRow1 (q := q2) (i := j) (k := 4) (f := 3) (n := D.I.length) (c := c2) HO); exact rfl; exact rfl; ((simp [Act.eval]; rfl)); exact rfl; exact HG2.out; decide; (repeat (with_reducible (first | exact At.head _ | apply At.tail))); exact HL2.out; infer_instance; exact rfl; clear HO; intro w HO; (simp only [Act.put])))
      go_ret
      refine ⟨rfl, .slice (some q2) D.I.length c2, u9, ?_⟩
      show Own W w (box t (.cells #[.slice (some q2) D.I.length c2, u9] 108) :: row 111 4 (.slice (some q2) D.I.length c2) ((D.I.set j { b := zb, o := zo, a := za, s := 2 }).map itemC) :: row 187 5 u9 (pl.map pstC) :: M)
      rw [← HS.out]
      exact ((HO.perm (rd_front _ _ _ _ _ _ _).symm).tail.tail.swap).sub (.cons_cons _ (.cons_cons _ (.cons _ (List.Sublist.refl _))))
    · have hd : (ex != 0) = true := by rw [bne_iff_ne]; exact hpe
      obtain rfl := HN.out hpe
      obtain rfl := hpn1.out hpe
      clear HN HY hpn1 hpe
      go_wp2_with (fail)
      go_ret
      exact ⟨rfl, _, u9, (HO.perm (rd_front _ _ _ _ _ _ _).symm).tail.tail.tail⟩
  · have NG : True := trivial
    rw [if_neg (by omega)] at HE
    have hsg : ¬ za < 0 := hneg
    have hp := HP.out zb zo za 1
    rw [if_neg hsg] at hp
    rw [hp] at HE HY
    clear HP hp
    have PO1 := Lib.hid (PO.out ⟨wid, zo, 4, 1, za⟩ ⟨hzo, rfl, rfl, hza, hws⟩)
    have hpn1 := Lib.hid (hpn.out ⟨wid, zo, 4, 1, za⟩)
    simp only [pstV, pstC] at PO1
    clear PO hpn
    generalize postE D.P ⟨wid, zo, 4, 1, za⟩ = pe at *
    generalize postL D.P ⟨wid, zo, 4, 1, za⟩ = pl at *
    obtain rfl := HE.out
    go_upto_region 22 with ((((with_reducible apply wpList_loadOne HO); exact rfl; exact rfl; (repeat (with_reducible (first | exact At.head _ | apply At.tail))); exact rfl; infer_instance; exact rfl; (simp only [Act.put, zA, zB, zC]))))
    refine region_sched2 ([box b15 (.cells #[.string wid, .int .i64 zo, .int .i64 4, .int .i64 1, .int .i64 za] 187)]) [(0, true), (1, true), (2, true), (3, true), (4, false), (5, true)] HO (by with_reducible (repeat (first | exact List.nil_sublist _ | apply List.Sublist.cons_cons))) (by kernel_rfl) (by kernel_rfl) ?_
    clear HO
    intro w HO
    repeat (first | ((with_reducible apply wpSched_loadAll); exact rfl; exact rfl; exact rfl; (repeat (with_reducible (exact At.head _))); infer_instance; exact rfl; exact rfl; (simp only [Act.put, zA, zB, zC])) | ((with_reducible apply wpSched_pure); exact rfl; exact rfl; (intro w'; go_simp; try with_reducible rfl); (simp only [Act.put, zA, zB, zC])))
    ((with_reducible apply wpSched_loud); exact rfl; go_wp2_with ((go_at_call 117; go_must ((have h9 := PO1.out _ _ (HO.perm (rd_front _ _ _ _ _ _ _))); (with_reducible refine h9.mono ?_); clear h9 HO; rintro e w ⟨rfl, u9, HO⟩))))
    refine thenQ_free (by kernel_rfl) ?_
    repeat ((with_reducible apply wpSched_pure); exact rfl; exact rfl; (intro w'; go_simp; try with_reducible rfl); (simp only [Act.put, zA, zB, zC]))
    refine wpSched_end ?_
    unfold rdB at HO
    by_cases hpe : ex = 0
    · subst hpe
      obtain rfl := HY.out rfl
      clear HN HY hpn1
      go_wp2_with (first | ((with_reducible apply wpList_storeOne HO); exact rfl; exact rfl; ((simp [Act.eval]; rfl)); exact rfl; (repeat (with_reducible (first | exact At.head _ | apply At.tail))); infer_instance; exact (by simp); (simp only [List.set_cons_zero]; rfl); exact rfl; clear HO; intro w HO; (simp only [Act.put])) | ((with_reducible apply wpList_storeRow1 (q := q2) (i := j) (k := 4) (f := 3) (n := D.I.length) (c := c2) HO); exact rfl; exact rfl; ((simp [Act.eval]; rfl)); exact rfl; exact HG2.out; decide; (repeat (with_reducible (first | exact At.head _ | apply At.tail))); exact HL2.out; infer_instance; exact rfl; clear HO; intro w HO; (simp only [Act.put])))
      go_ret
      refine ⟨rfl, .slice (some q2) D.I.length c2, u9, ?_⟩
      show Own W w (box t (.cells #[.slice (some q2) D.I.length c2, u9] 108) :: row 111 4 (.slice (some q2) D.I.length c2) ((D.I.set j { b := zb, o := zo, a := za, s := 2 }).map itemC) :: row 187 5 u9 (pl.map pstC) :: M)
      rw [← HS.out]
      exact ((HO.perm (rd_front _ _ _ _ _ _ _).symm).tail.tail.swap).sub (.cons_cons _ (.cons_cons _ (.cons _ (List.Sublist.refl _))))
    · have hd : (ex != 0) = true := by rw [bne_iff_ne]; exact hpe
      obtain rfl := HN.out hpe
      obtain rfl := hpn1.out hpe
      clear HN HY hpn1 hpe
      go_wp2_with (fail)
      go_ret
      exact ⟨rfl, _, u9, (HO.perm (rd_front _ _ _ _ _ _ _).symm).tail.tail.tail⟩
end Go.Proofs.YtibabfedpdoofaaGreatDoor
namespace Go.Proofs.YtibabfedpdoofaaGreatDoor
open Go.RowKit Go.Own

def greatE (x : EntS) : Bool := decide (200 < x.ref.length) || decide (200 < x.sku.length) || decide (100 < x.rs.length)
set_option maxHeartbeats 4000000 in
set_option maxRecDepth 100000 in
theorem great20_any {W : World} {v : Value} (x : EntS) (h : IsRows W v x.rs) (h1 : x.ref.length ≤ maxLen) (h2 : x.sku.length ≤ maxLen) :
    Calls Tryz.prog 64 #[.agg #[.int .i64 (x).k, .int .i64 (x).id, .string ⟨(x).ref.toArray⟩, .string ⟨(x).sku.toArray⟩, .int .i64 (x).qty, .int .i64 (x).amt, .int .i64 (x).o, .int .i64 (x).d, .int .i64 (x).c, .int .i64 (x).p, .int .i64 (x).q, v]] W fun e w' => e = .returned (.bool (greatE x)) ∧ Below W.heap.size W w' := by
  obtain ⟨sp, sc, rfl, hm⟩ := h.slice
  unfold maxLen at h1 h2 hm
  have HO := Own.start W
  have HQ := Lib.hid (show greatE x = (decide (200 < x.ref.length) || decide (200 < x.sku.length) || decide (100 < x.rs.length)) from rfl)
  clear h
  generalize greatE x = z at *
  generalize hr : x.rs.length = n at *
  clear hr
  by_cases g1 : 200 < x.ref.length
  · have g1' : (200 : Int) < (x.ref.length : Int) := by omega
    go_enter Tryz.func64, Tryz.ntmps64
    go_wp2_with ((first | go_big_skip | ((with_reducible apply wpList_loadOne HO); exact rfl; exact rfl; (repeat (with_reducible (exact At.head _))); exact rfl; infer_instance; exact rfl; (simp only [Act.put, zA, zB, zC])) | (((with_reducible apply wpList_boxAgg _ HO rfl); exact rfl; exact rfl; exact rfl; clear HO; intro b0 w HO; (simp only [Act.put, zA, zB, zC])))))
    go_ret
    exact ⟨by rw [HQ.out]; simp [g1], HO.grown⟩
  · have g1' : decide ((200 : Int) < (x.ref.length : Int)) = false := by simp; omega
    by_cases g2 : 200 < x.sku.length
    · have g2' : (200 : Int) < (x.sku.length : Int) := by omega
      go_enter Tryz.func64, Tryz.ntmps64
      go_wp2_with ((first | go_big_skip | ((with_reducible apply wpList_loadOne HO); exact rfl; exact rfl; (repeat (with_reducible (exact At.head _))); exact rfl; infer_instance; exact rfl; (simp only [Act.put, zA, zB, zC])) | (((with_reducible apply wpList_boxAgg _ HO rfl); exact rfl; exact rfl; exact rfl; clear HO; intro b0 w HO; (simp only [Act.put, zA, zB, zC])))))
      go_ret
      exact ⟨by rw [HQ.out]; simp [g2], HO.grown⟩
    · have g2' : decide ((200 : Int) < (x.sku.length : Int)) = false := by simp; omega
      by_cases g3 : 100 < n
      · have g3' : (100 : Int) < (n : Int) := by omega
        go_enter Tryz.func64, Tryz.ntmps64
        go_wp2_with ((first | ((with_reducible apply wpList_loadOne HO); exact rfl; exact rfl; (repeat (with_reducible (exact At.head _))); exact rfl; infer_instance; exact rfl; (simp only [Act.put, zA, zB, zC])) | (((with_reducible apply wpList_boxAgg _ HO rfl); exact rfl; exact rfl; exact rfl; clear HO; intro b0 w HO; (simp only [Act.put, zA, zB, zC])))))
        go_ret
        exact ⟨by rw [HQ.out]; simp [g3], HO.grown⟩
      · have g3' : decide ((100 : Int) < (n : Int)) = false := by simp; omega
        go_enter Tryz.func64, Tryz.ntmps64
        go_wp2_with ((first | ((with_reducible apply wpList_loadOne HO); exact rfl; exact rfl; (repeat (with_reducible (exact At.head _))); exact rfl; infer_instance; exact rfl; (simp only [Act.put, zA, zB, zC])) | (((with_reducible apply wpList_boxAgg _ HO rfl); exact rfl; exact rfl; exact rfl; clear HO; intro b0 w HO; (simp only [Act.put, zA, zB, zC])))))
        go_ret
        exact ⟨by rw [HQ.out]; simp [g1, g2, g3], HO.grown⟩
end Go.Proofs.YtibabfedpdoofaaGreatDoor
namespace Go.Proofs.YtibabfedpdoofaaGreatDoor
open Go.RowKit Go.Own

/-- An entry with its rows' slice. -/
structure EntI where
  x : EntS
  v : Value
def entC (e : EntI) : List Value := [.int .i64 e.x.k, .int .i64 e.x.id, .string ⟨e.x.ref.toArray⟩, .string ⟨e.x.sku.toArray⟩, .int .i64 e.x.qty, .int .i64 e.x.amt, .int .i64 e.x.o, .int .i64 e.x.d, .int .i64 e.x.c, .int .i64 e.x.p, .int .i64 e.x.q, e.v]
/-- Entries in memory. -/
structure IsEnts (W : World) (v : Value) (es : List EntI) : Prop where
  l : IsL W 12 v (es.map entC)
  r : ∀ e ∈ es, IsRows W e.v e.x.rs ∧ e.x.ref.length ≤ maxLen ∧ e.x.sku.length ≤ maxLen ∧ inI e.x.o = true
theorem IsEnts.below {W w : World} {v : Value} {es : List EntI} (h : IsEnts W v es) (hb : Below W.heap.size W w) : IsEnts w v es := ⟨h.l.below hb h.l.lt, fun e he => ⟨(h.r e he).1.below hb (h.r e he).1.lt, (h.r e he).2⟩⟩
def great1 (e : EntI) : Bool := greatE e.x || decide (60 < e.x.rs.length)
def greatL (es : List EntI) (most : Int) : Bool := es.any great1 || decide (most < (es.length : Int))

set_option maxHeartbeats 8000000 in
set_option maxRecDepth 100000 in
theorem great24_any {W : World} {v : Value} {es : List EntI} (most : Int) (h : IsEnts W v es) : Calls Tryz.prog 11 #[v, .int .i64 most] W fun e w' => e = .returned (.bool (greatL es most)) ∧ Below W.heap.size W w' := by
  have HH := Lib.hid h.l
  have HR := Lib.hid h
  obtain ⟨sp, sc, rfl, hmx⟩ := h.l.slice
  rw [List.length_map] at hmx HH HR ⊢
  have hmx' : (es.length : Int) ≤ 9223372036854775807 := by unfold maxLen at hmx; omega
  have HO := Own.start W
  generalize hg : greatL es most = g0
  replace hg := Lib.hid hg
  clear h
  go_enter Tryz.func11, Tryz.ntmps11
  go_wp2_with fail
  go_loopw [5] (fun i wr => ∃ j : Nat, j ≤ es.length ∧ i = .int .i64 (j : Int) ∧ (es.take j).any great1 = false ∧ Own W wr []) (fun i _ => es.length - (intOf i).toNat)
  case atStart => exact ⟨0, by omega, rfl, rfl, HO⟩
  case round =>
    clear HO
    obtain ⟨j, hj, rfl, hnf, HO⟩ := hrel
    by_cases hjl : j < es.length
    · have hjI : (j : Int) < (es.length : Int) := by omega
      obtain ⟨a, rfl, hst⟩ := oldAt HH.out rfl hjl
      have hr := HR.out.r _ (List.getElem_mem hjl)
      have HX := Lib.hid (show great1 es[j] = false → (es.take (j + 1)).any great1 = false from fun hx => by
        rw [List.take_succ_eq_append_getElem hjl, List.any_append, hnf]
        simpa using hx)
      have HY := Lib.hid (show great1 es[j] = true → greatL es most = true from fun hx => by
        unfold greatL
        rw [List.any_eq_true.2 ⟨es[j], List.getElem_mem hjl, hx⟩, Bool.true_or])
      clear hnf
      generalize es[j] = y at *
      obtain ⟨x, u⟩ := y
      obtain ⟨q1, c1, hu, hq⟩ := hr.1.slice
      simp only at hu hr
      subst hu
      have G := fun w (hb : Below W.heap.size W w) => great20_any x (hr.1.below hb hr.1.lt) hr.2.1 hr.2.2.1
      unfold entC at hst
      have hz := Lib.hid (show great1 ⟨x, .slice q1 x.rs.length c1⟩ = (greatE x || decide (60 < x.rs.length)) from rfl)
      have h11 := Lib.hid (fun w' (hb : Below W.heap.size W w') => hst w' hb 11 _ rfl)
      replace hst := Lib.hid hst
      clear hr
      generalize greatE x = ge at *
      cases ge with
      | true =>
        obtain rfl : g0 = true := hg.out.symm.trans (HY.out hz.out)
        clear HX HY hz
        go_wp2_with (first | ((with_reducible apply wpList_loadAt HO); exact rfl; exact rfl; exact (fun w' h1 => hst.out w' h1.grown); infer_instance; exact rfl; exact rfl; (simp only [Act.put, zA, zB, zC])) | (go_at_call 64; go_must ((with_reducible refine (G _ HO.grown).mono ?_); rintro e w ⟨rfl, hb⟩; replace HO := HO.call hb; clear hb)))
        go_ret
        exact ⟨rfl, HO.grown⟩
      | false =>
        rw [Bool.false_or] at hz
        by_cases h60 : 60 < x.rs.length
        · have h60I : (60 : Int) < (x.rs.length : Int) := by omega
          obtain rfl : g0 = true := hg.out.symm.trans (HY.out (hz.out.trans (decide_eq_true h60)))
          clear HX HY hz h60
          go_wp2_with (first | ((with_reducible apply wpList_loadAt HO); exact rfl; exact rfl; exact (fun w' h1 => hst.out w' h1.grown); infer_instance; exact rfl; exact rfl; (simp only [Act.put, zA, zB, zC])) | ((with_reducible apply wpList_loadAt1 HO); exact rfl; exact rfl; exact (fun w' h1 => h11.out w' h1.grown); infer_instance; exact rfl; (simp only [Act.put, zA, zB, zC])) | (go_at_call 64; go_must ((with_reducible refine (G _ HO.grown).mono ?_); rintro e w ⟨rfl, hb⟩; replace HO := HO.call hb; clear hb)))
          go_ret
          exact ⟨rfl, HO.grown⟩
        · have h60I : ¬ (60 : Int) < (x.rs.length : Int) := by omega
          have HZ := Lib.hid (HX.out (hz.out.trans (decide_eq_false h60)))
          clear HX HY hz h60
          go_wp2_with (first | ((with_reducible apply wpList_loadAt HO); exact rfl; exact rfl; exact (fun w' h1 => hst.out w' h1.grown); infer_instance; exact rfl; exact rfl; (simp only [Act.put, zA, zB, zC])) | ((with_reducible apply wpList_loadAt1 HO); exact rfl; exact rfl; exact (fun w' h1 => h11.out w' h1.grown); infer_instance; exact rfl; (simp only [Act.put, zA, zB, zC])) | (go_at_call 64; go_must ((with_reducible refine (G _ HO.grown).mono ?_); rintro e w ⟨rfl, hb⟩; replace HO := HO.call hb; clear hb)))
          go_roundw
          case rel => exact ⟨j + 1, by omega, by go_num, HZ.out, HO⟩
          case measure => simp [intOf] <;> omega
    · obtain rfl : j = es.length := by omega
      rw [List.take_length] at hnf
      have HQ := Lib.hid (show greatL es most = decide (most < (es.length : Int)) by unfold greatL; rw [hnf, Bool.false_or])
      obtain rfl : g0 = decide (most < (es.length : Int)) := hg.out.symm.trans HQ.out
      clear hnf
      go_wp2_with fail
      go_ret
      exact ⟨rfl, HO.grown⟩
end Go.Proofs.YtibabfedpdoofaaGreatDoor
namespace Go.Proofs.YtibabfedpdoofaaGreatDoor
open Go.RowKit Go.Own Go.Maps

/-- Entries that stand in old memory, or in some pieces of one's own. -/
structure EntsIn (W : World) (G : List Ent) (v : Value) (es : List EntI) : Prop where
  l : ∀ w' : World, Below W.heap.size W w' → (∀ e ∈ G, e.F w') → IsL w' 12 v (es.map entC)
  r : ∀ e ∈ es, EntF W G e.x e.v
theorem IsEnts.into {W : World} {v : Value} {es : List EntI} (h : IsEnts W v es) (G : List Ent) : EntsIn W G v es :=
  ⟨fun _ hb _ => h.l.below hb h.l.lt, fun e he => ⟨.old (h.r e he).1 G, (h.r e he).2.1, (h.r e he).2.2.1, (h.r e he).2.2.2⟩⟩
theorem sub_tail (X Y : List Ent) (Z : Ent) (N M : List Ent) : M.Sublist (X ++ (Y ++ (Z :: (N ++ M)))) :=
  (((List.sublist_append_right N M).cons Z).trans (List.sublist_append_right Y _)).trans (List.sublist_append_right X _)
theorem perm_out (X Y : List Ent) (Z : Ent) (L : List Ent) : (X ++ (Y ++ (Z :: L))).Perm (Z :: (X ++ (Y ++ L))) := by
  have h := List.perm_middle (a := Z) (l₁ := X ++ Y) (l₂ := L)
  simpa [List.append_assoc] using h
theorem perm_in (X Y : List Ent) (Z : Ent) (N' N M : List Ent) : (Z :: (N' ++ (X ++ (Y ++ (N ++ M))))).Perm (X ++ (Y ++ (Z :: ((N' ++ N) ++ M)))) := by
  have h1 : (N' ++ ((X ++ Y) ++ (N ++ M))).Perm ((X ++ Y) ++ (N' ++ (N ++ M))) := List.perm_append_comm_assoc _ _ _
  have h2 := (h1.cons Z).trans (List.perm_middle (a := Z) (l₁ := X ++ Y) (l₂ := N' ++ (N ++ M))).symm
  simpa [List.append_assoc] using h2

set_option maxHeartbeats 16000000 in
set_option maxRecDepth 100000 in
theorem cored_any {W w : World} {M G : List Ent} {v : Value} {es : List EntI} (HO : Own W w M) (hm : ∀ e ∈ G, e ∈ M) (hE : EntsIn W G v es) (hL : LaidE W) (hlen : es.length ≤ 1000) :
    Calls Tryz.prog 14 #[v] w fun e w' => ∃ (a : CoA) (i : InA) (x : RcA) (N : List Ent), e = .returned (.tuple #[.pointer (some ⟨a.c, 0, none⟩), .pointer (some ⟨x.r, 0, none⟩), .bool true]) ∧
      Own W w' (coPs a (coreOf (es.map (·.x))).1 i (coreOf (es.map (·.x))).2 ++ (inPs i (coreOf (es.map (·.x))).2 ++ (rcB x (coreOf (es.map (·.x))).2 :: (N ++ M)))) ∧ RcIn W (N ++ G) x (coreOf (es.map (·.x))).1 (coreOf (es.map (·.x))).2 := by
  obtain ⟨sp, sc, rfl, hmx⟩ := (hE.l w HO.grown (fun e he => HO.has _ (hm e he))).slice
  rw [List.length_map] at hmx hE ⊢
  have HE := Lib.hid hE
  have HM := Lib.hid hm
  clear hE hm
  go_enter Tryz.func14, Tryz.ntmps14
  go_wp2_with (first | (go_at_call 25; go_must ((with_reducible refine (coNew_any _).mono ?_); rintro e w ⟨a, rfl, HO1⟩; replace HO := HO.lift HO1; clear HO1)) | (go_at_call 26; go_must ((with_reducible refine (rcNew_any _).mono ?_); rintro e w ⟨r, rfl, HO1⟩; replace HO := HO.lift HO1; clear HO1)))
  have HI : Own W w (coPs a ⟨[], []⟩ inNil zeroI ++ (inPs inNil zeroI ++ (rcB (rcNil r) zeroI :: ([] ++ M)))) := by
    have h1 := HO.perm (perm_out (coPs a ⟨[], []⟩ inNil zeroI) (inPs inNil zeroI) (rcB (rcNil r) zeroI) M).symm
    exact h1
  clear HO
  go_loopw [7] (fun iv wr => ∃ (j : Nat) (a' : CoA) (i' : InA) (x' : RcA) (N : List Ent), j ≤ es.length ∧ iv = .int .i64 (j : Int) ∧ a'.c = a.c ∧ x'.r = r ∧ RcIn W (N ++ G) x' (coreOf ((es.map (·.x)).take j)).1 (coreOf ((es.map (·.x)).take j)).2 ∧
    Own W wr (coPs a' (coreOf ((es.map (·.x)).take j)).1 i' (coreOf ((es.map (·.x)).take j)).2 ++ (inPs i' (coreOf ((es.map (·.x)).take j)).2 ++ (rcB x' (coreOf ((es.map (·.x)).take j)).2 :: (N ++ M))))) (fun iv _ => es.length - (intOf iv).toNat)
  case atStart => exact ⟨0, a, inNil, rcNil r, [], by omega, rfl, rfl, rfl, (rcNil_in W r).mono (by simp), HI⟩
  case round =>
    clear HI
    obtain ⟨j, a', i', x', N, hj, rfl, hac, hxr, hR, HO⟩ := hrel
    by_cases hjl : j < es.length
    · have hjI : (j : Int) < (es.length : Int) := by omega
      have hml : es.length ≤ 9223372036854775807 := by omega
      obtain ⟨q, rfl⟩ : ∃ q, sp = some q := by
        rcases sp with _ | q
        · have := (HE.out.l wr HO.grown (fun e he => HO.has e (by have h9 := HM.out e he; simp [h9]))).at (by simp; omega)
          obtain ⟨_, _, h, _⟩ := this
          cases h
        · exact ⟨q, rfl⟩
      have HI := Lib.hid (fun (w' : World) (hb : Below W.heap.size W w') (hF : ∀ e ∈ M, e.F w') => isL_cell (HE.out.l w' hb (fun e he => hF e (HM.out e he))) (j := j) (by simpa using hjl))
      simp only [List.getElem_map] at HI
      have hent := HE.out.r _ (List.getElem_mem hjl)
      obtain ⟨ok1, ok2, ok3⟩ := coreOf_ok (es.map (·.x)) j (by simp; omega)
      have inv := coreOf_inv (es.map (·.x)) (by simpa using hlen) j (by simp; omega)
      have ids := coreOf_ids (es.map (·.x)) j (by simp; omega)
      have hsn := coreOf_snoc (es.map (·.x)) (j := j) (by simpa using hjl)
      rw [List.getElem_map] at hsn
      have hS : (coreOf ((es.map (·.x)).take (j + 1))).1 = applyS (coreOf ((es.map (·.x)).take j)).1 (coreOf ((es.map (·.x)).take j)).2 es[j].x := by rw [hsn]
      have hA : (coreOf ((es.map (·.x)).take (j + 1))).2 = applyI (coreOf ((es.map (·.x)).take j)).2 es[j].x := by rw [hsn]
      have hMG : ∀ e ∈ G, e ∈ rcB x' (coreOf ((es.map (·.x)).take j)).2 :: (N ++ M) := fun e he => List.mem_cons_of_mem _ (List.mem_append_right _ (HM.out e he))
      generalize es[j] = y at *
      obtain ⟨x, u⟩ := y
      dsimp only at hS hA hent
      unfold entC at HI
      have AP := Lib.hid (fun (w : World) (h : Own W w (coPs a' (coreOf ((es.map (·.x)).take j)).1 i' (coreOf ((es.map (·.x)).take j)).2 ++ (inPs i' (coreOf ((es.map (·.x)).take j)).2 ++ (rcB x' (coreOf ((es.map (·.x)).take j)).2 :: (N ++ M))))) => coApply_any x h (hent.into hMG) ok3 ok1 (by omega) hL)
      have RP := Lib.hid (fun (w : World) (X Y : List Ent) (h : Own W w (X ++ (Y ++ (rcB x' (coreOf ((es.map (·.x)).take j)).2 :: (N ++ M))))) => rcApply_any (G := N ++ G) (M := X ++ (Y ++ (N ++ M))) x (h.perm (perm_out X Y _ _)) hR (fun e he => by
        rcases List.mem_append.1 he with he | he
        · exact List.mem_append_right _ (List.mem_append_right _ (List.mem_append_left _ he))
        · exact List.mem_append_right _ (List.mem_append_right _ (List.mem_append_right _ (HM.out e he)))) ⟨fun w' hb hF => hent.rows w' hb (fun e he => hF e (List.mem_append_right _ he)), hent.ref, hent.sku, hent.o⟩ inv ids (by omega))
      rw [← hS, ← hA, hac] at AP
      rw [← hS, ← hA, hxr] at RP
      generalize applyE (coreOf ((es.map (·.x)).take j)).1 (coreOf ((es.map (·.x)).take j)).2 x = ex at *
      clear hS hA hsn ok1 ok2 ok3 hent inv ids hMG hR
      go_upto_region 5 with fail
      refine region_schedO (M) [(0, true), (1, true), (2, true), (3, true), (4, true), (6, true), (7, true), (8, true), (9, true), (10, true), (5, false), (11, false), (12, true)] HO (sub_tail _ _ _ _ _) (by kernel_rfl) (by kernel_rfl) ?_
      clear HO
      intro w HO
      repeat (first | ((with_reducible apply wpHeld_loadAt); exact rfl; exact rfl; exact rfl; exact (fun w' hw => HI.out w' (hw _ List.mem_cons_self) (fun e he => hw _ (.tail _ he))); infer_instance; exact rfl; exact rfl; (simp only [Act.put, zA, zB, zC])) | ((with_reducible apply wpHeld_pure); exact rfl; exact rfl; (intro w'; go_simp; try with_reducible rfl); (simp only [Act.put, zA, zB, zC])))
      ((with_reducible apply wpHeld_loud); exact rfl; go_wp2_with ((go_at_call 27; go_must ((with_reducible refine (AP.out _ HO).mono ?_); clear AP HO; rintro e w ⟨rfl, u', v9, i9, -, HO⟩))))
      refine ⟨HO.heldO (sub_tail _ _ _ _ _), ?_⟩
      ((with_reducible apply wpHeld_loud); exact rfl; go_wp2_with ((go_at_call 28; go_must ((have h9 := RP.out _ _ _ HO); (with_reducible refine h9.mono ?_); clear h9 HO; rintro e w ⟨rfl, x9, N9, hr9, HO, hR9⟩))))
      replace HO := HO.perm (perm_in _ _ _ _ _ _)
      refine ⟨HO.heldO (sub_tail _ _ _ _ _), ?_⟩
      ((with_reducible apply wpHeld_pure); exact rfl; exact rfl; (intro w'; go_simp; try with_reducible rfl); (simp only [Act.put, zA, zB, zC]))
      refine wpHeld_end ?_
      go_wp2_with fail
      go_roundw
      case rel => exact ⟨j + 1, ⟨a.c, v9, a'.k, u', a'.pm, a'.bm⟩, i9, x9, N9 ++ N, by omega, by go_num, rfl, hr9, by rw [List.append_assoc]; exact hR9, HO⟩
      case measure => simp [intOf] <;> omega
    · obtain rfl : j = es.length := by omega
      rw [show es.length = (es.map (·.x)).length by simp, List.take_length] at HO hR
      have HR := Lib.hid hR
      clear hR
      subst hxr
      go_wp2_with fail
      go_ret3
      exact ⟨⟨a.c, a'.v, a'.k, a'.u, a'.pm, a'.bm⟩, i', x', N, rfl, by rw [← hac]; exact HO, HR.out⟩
end Go.Proofs.YtibabfedpdoofaaGreatDoor
namespace Go.Own
open Go.RowKit

theorem fold_mid : ∀ (l : List Value) (i off : Nat) (z : List Value), off + i + l.length ≤ z.length →
    (l.zipIdx i).foldl (fun (cs : Array Value) (p : Value × Nat) => cs.setIfInBounds (off + p.2) p.1) z.toArray = (z.take (off + i) ++ l ++ z.drop (off + i + l.length)).toArray
  | [], i, off, z, h => by simp
  | x :: l, i, off, z, h => by
    simp only [List.length_cons] at h
    rw [List.zipIdx_cons, List.foldl_cons]
    have e : (z.toArray.setIfInBounds (off + i) x) = (z.set (off + i) x).toArray := by simp
    rw [e, fold_mid l (i + 1) off (z.set (off + i) x) (by simp; omega)]
    congr 1
    rw [← Nat.add_assoc, List.take_succ_eq_append_getElem (by simp; omega), List.take_set_of_le (Nat.le_refl _), List.drop_set_of_lt (by omega)]
    simp only [List.getElem_set_self, List.append_assoc, List.singleton_append, List.length_cons]
    rw [show off + i + 1 + l.length = off + i + (l.length + 1) by omega]
def partsOf : List (List Value) → Nat → List (Nat × Value)
  | [], _ => []
  | l :: ls, i => (i, .agg l.toArray) :: partsOf ls (i + 1)
theorem fill_many {k : Nat} : ∀ (ls : List (List Value)) (i : Nat) (pre suf : List Value), pre.length = i * k → suf.length = ls.length * k → (∀ l ∈ ls, l.length = k) →
    Instr.fill (fun i => some (i * k, k)) (pre ++ suf).toArray (partsOf ls i) = some (pre ++ ls.flatten).toArray
  | [], i, pre, suf, h1, h2, _ => by
    have : suf = [] := List.length_eq_zero_iff.1 (by simpa using h2)
    subst this
    simp [partsOf, Instr.fill]
  | l :: ls, i, pre, suf, h1, h2, h3 => by
    have hl := h3 l List.mem_cons_self
    have h2' : suf.length = ls.length * k + k := by rw [h2, List.length_cons, Nat.succ_mul]
    unfold partsOf Instr.fill
    have hsz : (Value.agg l.toArray).cells = l.toArray := rfl
    simp only [hsz]
    have hc : ¬ (l.toArray.size ≠ k || decide (i * k + l.toArray.size > (pre ++ suf).toArray.size)) = true := by
      simp [hl]
      omega
    rw [if_neg (by simpa using hc), ← Array.foldl_toList, Array.toList_zipIdx]
    have hf := fold_mid l 0 (i * k) (pre ++ suf) (by simp; omega)
    simp only [Nat.add_zero] at hf
    rw [hf, List.take_append_of_le_length (by omega), List.take_of_length_le (by omega), List.drop_append, List.drop_eq_nil_of_le (by omega), List.nil_append]
    have h4 := fill_many ls (i + 1) (pre ++ l) (suf.drop (i * k + l.length - pre.length)) (by rw [List.length_append, h1, hl, Nat.succ_mul]) (by rw [List.length_drop]; omega) (fun x hx => h3 x (List.mem_cons_of_mem _ hx))
    rw [h4]
    simp
section
variable {P : Program} {ops : Array Oper} {rest : List Oper} {o : Oper} {a : Act} {W w : World} {Q : Exit → Act → World → Prop} {L : List Ent}
theorem wpList_litN {t e k n by' : Nat} {parts : Array (Nat × Operand)} (ls : List (List Value)) (hO : Own W w L) (ho : o.op = .buildSlice t n parts) (ht : IsSlice P t e) (hsz : IsElem P e k by') (hp0 : parts.toList.map (fun p => (p.1, a.eval p.2)) = partsOf ls 0) (hn : ls.length = n)
    (hl0 : (ls.all fun l => Nat.beq l.length k) = true) (hk0 : Nat.ble (n * k) 1000 = true) (hn1 : Nat.ble 1 n = true) (hw : Region.wanted o (yielded ops a.tmps) = true) (h : ∀ b w', Own W w' (box b (.cells ls.flatten.toArray e) :: L) → wpList P ops Q rest (a.put o.dst (.slice (some ⟨b, 0, none⟩) n n)) w') : wpList P ops Q (o :: rest) a w := by
  have h1 := hsz.out
  have hpos := hsz.pos
  have hp : (parts.map fun (i, x) => (i, a.eval x)).toList = partsOf ls 0 := by rw [Array.toList_map]; exact hp0
  have hn0 : 0 < n := Nat.le_of_ble_eq_true hn1
  have hk : n * k ≤ 1000 := Nat.le_of_ble_eq_true hk0
  have hl : ∀ l ∈ ls, l.length = k := fun l hl => Nat.eq_of_beq_eq_true (List.all_eq_true.1 hl0 l hl)
  have hnk : 0 < n * k := Nat.mul_pos hn0 hpos
  have hrun : (execOp a.eval o).run P w = .ok (.value (.slice (some ⟨w.heap.size, 0, none⟩) n n)) (w.alloc (.cells ls.flatten.toArray e)) := by
    cases hi : P.info? e with
    | none => simp [hi] at h1
    | some i =>
      cases hzz : i.zero with
      | none => simp [hi, hzz] at h1
      | some zv =>
        simp only [hi, hzz, Option.bind_some, Option.map_some, Option.some.injEq, Prod.mk.injEq] at h1
        obtain ⟨h2, h3, _⟩ := h1
        have hlt : ¬ (16777216 < n * k) := by omega
        have h0 : ¬ (n * k = 0) := by omega
        have h00 : ¬ (n = 0) := by omega
        have h01 : ¬ (k = 0) := by omega
        have hf : Instr.fill (fun i => some (i * k, k)) (Array.map (fun x => zv.cells[x % zv.cells.size]!) (Array.range (n * k))) (parts.map fun (i, x) => (i, a.eval x)).toList = some ls.flatten.toArray := by
          rw [hp]
          have := fill_many (k := k) ls 0 [] (Array.map (fun x => zv.cells[x % zv.cells.size]!) (Array.range (n * k))).toList (by simp) (by simp [hn]) hl
          rwa [List.nil_append, List.nil_append, Array.toArray_toList] at this
        unfold execOp
        simp only [ho, Instr.buildSlice]
        simp [underlying, ht.out, sizeOf, typeInfo, hi, h3, h0, zeroValue, hzz, hlt, newRow]
        simp at hf
        simp [hf]
  exact wpList_value hw hrun (h _ _ (hO.alloc _))
end
end Go.Own
namespace Go.Proofs.YtibabfedpdoofaaGreatDoor
open Go.RowKit Go.Own Go.Maps

def chE : List EntI := [⟨⟨1, 1, [97], [120], 1, 500, 0, 0, 0, 0, 0, []⟩, .slice none 0 0⟩, ⟨⟨3, 0, [], [], 0, 0, 1, 0, 1, 0, 0, []⟩, .slice none 0 0⟩, ⟨⟨3, 0, [], [], 0, 0, 1, 1, 1, 0, 0, []⟩, .slice none 0 0⟩, ⟨⟨3, 0, [], [], 0, 0, 1, 2, 1, 0, 0, []⟩, .slice none 0 0⟩]
def chS : CoS := ⟨[(⟨1, [97], [120], 1, 500⟩, ⟨2, 2, 2, 0, 0, 0, false⟩)], [⟨putK 1 1, 1, 1, 0, 500⟩]⟩
theorem chC : coreOf (chE.map (·.x)) = (chS, zeroI) := by kernel_rfl
def sI1 : List ItemS := [⟨[97], 1, 300, 1⟩]
def sI2 : List ItemS := [⟨[97], 1, 300, 2⟩]
def sP2 : List Pst := [wPst 1 ⟨[97], 1, 300, 1⟩]
theorem s1 : propE chS [] ⟨[97], 1, 300, 0⟩ = 0 := by kernel_rfl
theorem s1n : propN chS [] ⟨[97], 1, 300, 0⟩ = 1 := by kernel_rfl
theorem s1i : propI chS [] ⟨[97], 1, 300, 0⟩ = sI1 := by kernel_rfl
theorem s2 : propE chS sI1 ⟨[98], 1, 300, 0⟩ = 90 := by kernel_rfl
theorem s2n : propN chS sI1 ⟨[98], 1, 300, 0⟩ = 0 := by kernel_rfl
theorem s2i : propI chS sI1 ⟨[98], 1, 300, 0⟩ = sI1 := by kernel_rfl
theorem s3 : apprE chS ⟨sI1, []⟩ [97] 1 = 91 := by kernel_rfl
theorem s3d : apprD chS ⟨sI1, []⟩ [97] 1 = ⟨sI1, []⟩ := by kernel_rfl
theorem s4 : apprE chS ⟨sI1, []⟩ [98] 1 = 0 := by kernel_rfl
theorem s4d : apprD chS ⟨sI1, []⟩ [98] 1 = ⟨sI2, sP2⟩ := by kernel_rfl
theorem s5 : apprE chS ⟨sI2, sP2⟩ [98] 1 = 92 := by kernel_rfl
theorem s5d : apprD chS ⟨sI2, sP2⟩ [98] 1 = ⟨sI2, sP2⟩ := by kernel_rfl
theorem s6 : openD chS sI2 1 = (200, true) := by kernel_rfl
theorem s7 : bal sP2 4 1 = 300 := by kernel_rfl
theorem chBk : Bk chS.P := .snoc [] _ .nil (by kernel_rfl) rfl (by kernel_rfl)
theorem sBk : Bk sP2 := .snoc [] _ .nil (by kernel_rfl) rfl (by kernel_rfl)

theorem entC_len32 (l : List EntI) : ∀ x ∈ l.map entC, x.length = 12 := fun x hx => by
  obtain ⟨y, _, rfl⟩ := List.mem_map.1 hx
  rfl

set_option maxHeartbeats 8000000 in
set_option maxRecDepth 100000 in
theorem charged32_any (W : World) (hL : LaidE W) : Calls Tryz.prog 100 #[] W fun e w' => ∃ (a : CoA) (i : InA) (N : List Ent), e = .returned (.pointer (some ⟨a.c, 0, none⟩)) ∧ Own W w' (coPs a chS i zeroI ++ (inPs i zeroI ++ N)) := by
  have HO := Own.start W
  have hnil : ∀ w' : World, IsRows w' (.slice none 0 0) [] := fun w' => .none _ _ (fun _ => rfl)
  have HEF : ∀ (v : Value), EntsIn W [row 34 12 v (chE.map entC)] v chE := fun v => by
    refine ⟨fun w' _ hF => isL_of_owns (entC_len32 _) (hF _ List.mem_cons_self), fun e he => ?_⟩
    simp only [chE, List.mem_cons, List.not_mem_nil, or_false] at he
    rcases he with rfl | rfl | rfl | rfl
    all_goals exact ⟨fun w' _ _ => hnil w', by unfold maxLen; decide, by unfold maxLen; decide, rfl⟩
  have CH := Lib.hid chC
  go_enter Tryz.func100, Tryz.ntmps100
  go_wp2_with (first | ((with_reducible apply wpList_litN ([[.int .i64 1, .int .i64 1, .string ⟨#[97]⟩, .string ⟨#[120]⟩, .int .i64 1, .int .i64 500, .int .i64 0, .int .i64 0, .int .i64 0, .int .i64 0, .int .i64 0, .slice none 0 0], [.int .i64 3, .int .i64 0, .string ⟨#[]⟩, .string ⟨#[]⟩, .int .i64 0, .int .i64 0, .int .i64 1, .int .i64 0, .int .i64 1, .int .i64 0, .int .i64 0, .slice none 0 0], [.int .i64 3, .int .i64 0, .string ⟨#[]⟩, .string ⟨#[]⟩, .int .i64 0, .int .i64 0, .int .i64 1, .int .i64 1, .int .i64 1, .int .i64 0, .int .i64 0, .slice none 0 0], [.int .i64 3, .int .i64 0, .string ⟨#[]⟩, .string ⟨#[]⟩, .int .i64 0, .int .i64 0, .int .i64 1, .int .i64 2, .int .i64 1, .int .i64 0, .int .i64 0, .slice none 0 0]]) HO); exact rfl; infer_instance; infer_instance; exact rfl; exact rfl; exact rfl; exact rfl; exact rfl; exact rfl; clear HO; intro bl w HO; (simp only [Act.put, zA, zB, zC])) | (go_at_call 14; go_must ((have HO2 := HO.litRow (A := chE.map entC) (k := 12) (entC_len32 _) rfl rfl (show (4 : Nat) ≤ maxLen by unfold maxLen; omega)); (have h9 := cored_any HO2 (G := [row 34 12 (.slice (some ⟨bl, 0, none⟩) 4 4) (chE.map entC)]) (fun e he => by rw [List.mem_singleton.1 he]; exact List.mem_cons_self) (HEF _) hL (by decide)); rw [CH.out] at h9; (with_reducible refine h9.mono ?_); clear h9 HO HO2; rintro e w ⟨a, i, x, N, rfl, HO, -⟩)))
  go_ret
  exact ⟨a, i, _, rfl, HO⟩
theorem dk_coAt {W w : World} {X M : List Ent} {x : DkA} {D : DkS} {a : CoA} {S : CoS} {i : InA} {A : InS} (hm : ∀ e ∈ coPs a S i A, e ∈ M) (h : Own W w (X ++ (dkPs x D ++ M))) : CoAt w a S i A :=
  Own.coAt h (List.mem_append_right _ (List.mem_append_right _ (hm _ (.head _)))) (List.mem_append_right _ (List.mem_append_right _ (hm _ (.tail _ (.head _))))) (List.mem_append_right _ (List.mem_append_right _ (hm _ (.tail _ (.tail _ (.head _))))))

set_option maxHeartbeats 16000000 in
set_option maxRecDepth 100000 in
theorem signed_any (W : World) (hL : LaidE W) : Calls Tryz.prog 39 #[] W fun e w' => e = .returned (.bool true) ∧ Below W.heap.size W w' := by
  have HO := Own.start W
  go_enter Tryz.func39, Tryz.ntmps39
  go_upto_region 2 with (first | (go_at_call 100; go_must ((with_reducible refine (charged32_any _ (hL.below HO.grown)).mono ?_); rintro e w ⟨a, i, N, rfl, HO1⟩; replace HO := HO.lift HO1; clear HO1)) | (go_at_call 40; go_must ((with_reducible refine (dkNew_any _).mono ?_); rintro e w ⟨x, rfl, HO1⟩; replace HO := HO.lift HO1; clear HO1)))
  obtain ⟨M, hM⟩ : ∃ M, M = (coPs a chS i zeroI ++ (inPs i zeroI ++ N)) ++ [] := ⟨_, rfl⟩
  have hm : ∀ e ∈ coPs a chS i zeroI, e ∈ M := fun e he => by rw [hM]; exact List.mem_append_left _ (List.mem_append_left _ he)
  rw [← hM] at HO
  clear hM
  have i0 : ItOk [] := fun x hx => by cases hx
  have i1 : ItOk sI1 := fun x hx => by rw [List.mem_singleton.1 hx]; exact ⟨rfl, rfl, rfl, by unfold maxLen; decide⟩
  have i2 : ItOk sI2 := fun x hx => by rw [List.mem_singleton.1 hx]; exact ⟨rfl, rfl, rfl, by unfold maxLen; decide⟩
  have P1 := Lib.hid (fun (w : World) (x : DkA) (h : Own W w (dkPs x ⟨[], []⟩ ++ M)) => dkProp_any (⟨[97], 1, 300, 0⟩ : ItemS) h hm i0 chBk rfl (by unfold maxLen; decide) (by decide))
  have P2 := Lib.hid (fun (w : World) (x : DkA) (h : Own W w (dkPs x ⟨sI1, []⟩ ++ M)) => dkProp_any (⟨[98], 1, 300, 0⟩ : ItemS) h hm i1 chBk rfl (by unfold maxLen; decide) (by show (1 : Nat) ≤ 1000; decide))
  have A1 := Lib.hid (fun (w : World) (x : DkA) (h : Own W w (dkPs x ⟨sI1, []⟩ ++ M)) => dkAppr_any (b := [97]) (n := 1) h hm i1 .nil chBk (by unfold maxLen; decide) rfl (by decide) (by show (1 : Nat) ≤ 1000; decide) hL)
  have A2 := Lib.hid (fun (w : World) (x : DkA) (h : Own W w (dkPs x ⟨sI1, []⟩ ++ M)) => dkAppr_any (b := [98]) (n := 1) h hm i1 .nil chBk (by unfold maxLen; decide) rfl (by decide) (by show (1 : Nat) ≤ 1000; decide) hL)
  have A3 := Lib.hid (fun (w : World) (x : DkA) (h : Own W w (dkPs x ⟨sI2, sP2⟩ ++ M)) => dkAppr_any (b := [98]) (n := 1) h hm i2 sBk chBk (by unfold maxLen; decide) rfl (by show (1 : Nat) ≤ 99000; decide) (by show (1 : Nat) ≤ 1000; decide) hL)
  have OP := Lib.hid (fun (w : World) (x : DkA) (h : Own W w (dkPs x ⟨sI2, sP2⟩ ++ M)) => dkOpen_any (o := 1) (Own.dkAt h (dk_in [] x ⟨sI2, sP2⟩ M)) (dk_coAt (X := []) hm h) i2 chBk rfl)
  have BK := Lib.hid (fun (w : World) (x : DkA) (h : Own W w (dkPs x ⟨sI2, sP2⟩ ++ M)) => dkBooks_any (Own.dkAt h (dk_in [] x ⟨sI2, sP2⟩ M)) (by show (1 : Nat) ≤ 100000; decide))
  have BL := Lib.hid (fun (w : World) (b : Nat) (v : Value) (pm bm : Nat) (L : List Ent) (h : Own W w (bkE b v pm bm sP2 :: L)) => bkBal_any (Own.bkAt h (.head _)) (n := 4) (o := 1) rfl rfl)
  simp only [s1, s1n, s1i, itemV] at P1
  simp only [s2, s2n, s2i, itemV] at P2
  simp only [s3, s3d] at A1
  simp only [s4, s4d] at A2
  simp only [s5, s5d] at A3
  simp only [s6] at OP
  simp only [s7] at BL
  go_upto_region 3 with ((go_at_call 42; go_must ((have h9 := P1.out _ _ HO); (with_reducible refine h9.mono ?_); clear h9 HO; rintro e w ⟨rfl, v1, HO⟩)))
  go_upto_region 4 with ((go_at_call 42; go_must ((have h9 := P2.out _ _ HO); (with_reducible refine h9.mono ?_); clear h9 HO; rintro e w ⟨rfl, v2, HO⟩)))
  go_upto_region 5 with ((go_at_call 47; first | ((have h9 := A1.out _ _ HO); (with_reducible refine h9.mono ?_); clear h9 HO; rintro e w ⟨rfl, u1, HO⟩) | ((have h9 := A2.out _ _ HO); (with_reducible refine h9.mono ?_); clear h9 HO; rintro e w ⟨rfl, u2, HO⟩) | ((have h9 := A3.out _ _ HO); (with_reducible refine h9.mono ?_); clear h9 HO; rintro e w ⟨rfl, u3, HO⟩)))
  go_upto_region 6 with ((go_at_call 41; go_must ((with_reducible refine (OP.out _ _ HO).mono ?_); rintro e w ⟨rfl, hb⟩; replace HO := HO.call hb; clear hb)))
  go_wp2_with (first | (go_at_call 48; go_must ((have h9 := BK.out _ _ HO); (with_reducible refine h9.mono ?_); clear h9; rintro e w ⟨b9, v9, p9, m9, rfl, HO1⟩; replace HO := HO.lift HO1; clear HO1; simp only [List.cons_append, List.nil_append] at HO)) | (go_at_call 52; go_must ((with_reducible refine (BL.out _ _ _ _ _ _ HO).mono ?_); rintro e w ⟨rfl, hb⟩; replace HO := HO.call hb; clear hb)))
  go_ret
  exact ⟨rfl, HO.grown⟩
end Go.Proofs.YtibabfedpdoofaaGreatDoor
namespace Go.Proofs.YtibabfedpdoofaaGreatDoor
open Go.RowKit Go.Own Go.Maps

theorem wK_list (n : Int) : (wK n).data.toList = 119 :: Lib.itoa n := by simp [wK]
theorem wK_inj {n m : Int} (h1 : 0 ≤ n) (h2 : 0 ≤ m) (h : wK n = wK m) : n = m := by
  have h3 := bytes_ext h
  rw [wK_list, wK_list, itoa_nat h1, itoa_nat h2, List.cons.injEq] at h3
  have := dec_inj h3.2
  omega
def wItem (o : Int) (x : ItemS) : Int := if x.o = o ∧ x.s = 2 then x.a else 0
def wsum (o : Int) : List ItemS → Int
  | [] => 0
  | x :: l => wItem o x + wsum o l
theorem wsum_app (o : Int) : ∀ l m : List ItemS, wsum o (l ++ m) = wsum o l + wsum o m
  | [], m => by simp [wsum]
  | x :: l, m => by simp only [List.cons_append, wsum, wsum_app o l m]; omega
theorem wsum_set (o : Int) : ∀ (l : List ItemS) (j : Nat) (hj : j < l.length) (y : ItemS), wsum o (l.set j y) = wsum o l - wItem o l[j] + wItem o y
  | x :: l, 0, _, y => by simp only [List.set_cons_zero, wsum, List.getElem_cons_zero]; omega
  | x :: l, j + 1, hj, y => by
    have := wsum_set o l j (by simpa using hj) y
    simp only [List.set_cons_succ, wsum, List.getElem_cons_succ, this]
    omega
theorem leftFold_writ (o : Int) : ∀ (I : List ItemS) (n : Int), (I.foldl (leftStep o writS) (n, true)).2 = true → (I.foldl (leftStep o writS) (n, true)).1 = n - wsum o I
  | [], n, _ => by simp [wsum]
  | x :: I, n, h => by
    rw [List.foldl_cons] at h ⊢
    unfold wsum wItem
    by_cases h1 : x.o = o
    · by_cases h2 : x.s = 2
      · have e : leftStep o writS (n, true) x = subI n x.a := by
          unfold leftStep
          rw [if_pos rfl, if_pos h1, if_pos (by unfold writS; rw [h2]; rfl)]
        rw [e] at h ⊢
        by_cases hs : inI (n - x.a) = true
        · rw [show subI n x.a = (n - x.a, true) by unfold subI; rw [if_pos hs]] at h ⊢
          rw [leftFold_writ o I _ h, if_pos ⟨h1, h2⟩]
          omega
        · rw [show subI n x.a = (0, false) by unfold subI; rw [if_neg hs], leftFold_stop _ _ _ _ rfl] at h
          cases h
      · have e : leftStep o writS (n, true) x = (n, true) := by
          unfold leftStep
          rw [if_pos rfl, if_pos h1, if_neg (by unfold writS; simpa using h2)]
        rw [e] at h ⊢
        rw [leftFold_writ o I _ h, if_neg (fun hh => h2 hh.2)]
        omega
    · have e : leftStep o writS (n, true) x = (n, true) := by
        unfold leftStep
        rw [if_pos rfl, if_neg h1]
      rw [e] at h ⊢
      rw [leftFold_writ o I _ h, if_neg (fun hh => h1 hh.1)]
      omega
theorem leftF_writ {I : List ItemS} {n o : Int} (h : (leftF I n o writS).2 = true) : (leftF I n o writS).1 = n - wsum o I := leftFold_writ o I n h

/-- What a desk comes to. -/
structure DkOk (D : DkS) : Prop where
  bk : Bk D.P
  len : D.I.length ≤ 100
  it : ∀ x ∈ D.I, 1 ≤ x.o ∧ x.o ≤ 60 ∧ inI x.a = true ∧ x.b.length ≤ 16 ∧ inI x.s = true
  ids : ∀ p ∈ D.P, ∃ (j : Nat) (hj : j < D.I.length), p.id = wK ((j : Int) + 1) ∧ D.I[j].s = 2
  b4 : ∀ o, o ≠ 0 → bal D.P 4 o = wsum o D.I
  b1 : ∀ o, o ≠ 0 → bal D.P 1 o = -wsum o D.I
theorem dkOk_new : DkOk ⟨[], []⟩ := ⟨.nil, by decide, by simp, by simp, fun _ _ => rfl, fun _ _ => rfl⟩
theorem wsum_one (o : Int) (x : ItemS) : wsum o [x] = wItem o x := by simp [wsum]
theorem prop_zero {S : CoS} {I : List ItemS} {x : ItemS} (h : propE S I x = 0) : whoB x.b = true ∧ (∃ y, ordAt S.L x.o = some y) ∧ (openD S I x.o).2 = true ∧ withinB x.a (openD S I x.o).1 = true ∧ I.length < 100 := by
  unfold propE at h
  split at h
  · rename_i h1
    split at h
    · cases h
    · rename_i y hy
      split at h
      · cases h
      · split at h
        · rename_i h2
          split at h
          · rename_i h3
            exact ⟨h1, ⟨y, hy⟩, h2.1, h2.2, h3⟩
          · cases h
        · cases h
  · cases h
theorem propI_ok {S : CoS} {D : DkS} {x : ItemS} (h : DkOk D) (hl : S.L.length ≤ 60) (hx : inI x.a = true) : DkOk ⟨propI S D.I x, D.P⟩ := by
  unfold propI
  split
  · rename_i hz
    obtain ⟨h1, ⟨y, hy⟩, _, _, h5⟩ := prop_zero hz
    obtain ⟨j, hj, ho, _⟩ := ordAt_some hy
    unfold whoB at h1
    simp only [decide_eq_true_eq] at h1
    have hw : ∀ o, wsum o (D.I ++ [{ x with s := 1 }]) = wsum o D.I := fun o => by
      rw [wsum_app, wsum_one, wItem, if_neg (by simp), Int.add_zero]
    refine ⟨h.bk, by simp; omega, fun z hz => ?_, fun p hp => ?_, fun o ho => by rw [hw]; exact h.b4 o ho, fun o ho => by rw [hw]; exact h.b1 o ho⟩
    · rcases List.mem_append.1 hz with hz | hz
      · exact h.it z hz
      · obtain rfl := List.mem_singleton.1 hz
        exact ⟨by simp only; omega, by simp only; omega, hx, h1.2, rfl⟩
    · obtain ⟨k, hk, e1, e2⟩ := h.ids p hp
      refine ⟨k, by simp only [List.length_append]; omega, e1, ?_⟩
      simp only
      rw [List.getElem_append_left hk]
      exact e2
  · exact h
theorem refuI_ok {D : DkS} {b : List UInt8} {n : Int} (h : DkOk D) : DkOk ⟨refuI D.I b n, D.P⟩ := by
  unfold refuI
  split
  · rename_i hz
    obtain ⟨_, j, hj, rfl, hs, hx⟩ := pend_zero hz
    rw [hx]
    simp only
    unfold setI
    rw [show ((j : Int) + 1 - 1).toNat = j by omega]
    have hw : ∀ o, wsum o (D.I.set j { D.I[j] with s := 3 }) = wsum o D.I := fun o => by
      rw [wsum_set o _ j hj, wItem, if_neg (by rw [hs]; simp), wItem, if_neg (by simp)]
      omega
    refine ⟨h.bk, by simpa using h.len, fun z hz => ?_, fun p hp => ?_, fun o ho => by rw [hw]; exact h.b4 o ho, fun o ho => by rw [hw]; exact h.b1 o ho⟩
    · rcases List.mem_or_eq_of_mem_set hz with hz | rfl
      · exact h.it z hz
      · obtain ⟨a1, a2, a3, a4, _⟩ := h.it _ (List.getElem_mem hj)
        exact ⟨a1, a2, a3, a4, rfl⟩
    · obtain ⟨k, hk, e1, e2⟩ := h.ids p hp
      have hne : j ≠ k := by
        rintro rfl
        rw [hs] at e2
        cases e2
      refine ⟨k, by simpa using hk, e1, ?_⟩
      simp only
      rw [List.getElem_set_ne hne]
      exact e2
  · exact h
theorem wPst_delta (n : Int) (x : ItemS) (o : Int) (ho : o ≠ 0) : delta (wPst n x) 4 o = (if x.o = o then x.a else 0) ∧ delta (wPst n x) 1 o = -(if x.o = o then x.a else 0) := by
  unfold wPst
  by_cases h1 : x.o = o
  · by_cases h2 : x.a < 0
    · rw [if_pos h2, if_pos h1]
      simp [delta, h1]
    · rw [if_neg h2, if_pos h1]
      simp [delta, h1]
  · by_cases h2 : x.a < 0
    · rw [if_pos h2, if_neg h1]
      simp [delta, h1, ho]
    · rw [if_neg h2, if_neg h1]
      simp [delta, h1, ho]
/-- What an approval does. -/
theorem appr_zero {S : CoS} {D : DkS} {b : List UInt8} {n : Int} (h : DkOk D) (hS : Bk S.P) (hz : apprE S D b n = 0) : ∃ (j : Nat) (hj : j < D.I.length), n = (j : Int) + 1 ∧ D.I[j].s = 1 ∧ itemAt D.I n = some D.I[j] ∧ D.I[j].b ≠ b ∧
    apprD S D b n = ⟨D.I.set j { D.I[j] with s := 2 }, D.P ++ [wPst n D.I[j]]⟩ ∧ DkOk (apprD S D b n) ∧
    inI (bal S.P 1 D.I[j].o - wsum D.I[j].o D.I) = true ∧ inI (wsum D.I[j].o D.I + D.I[j].a) = true ∧ withinB D.I[j].a (bal S.P 1 D.I[j].o - wsum D.I[j].o D.I) = true := by
  have hz0 := hz
  unfold apprE at hz
  split at hz
  rotate_left
  · rename_i hp; exact absurd hz hp
  rename_i hp
  obtain ⟨_, j, hj, rfl, hs, hx⟩ := pend_zero hp
  rw [hx] at hz
  simp only at hz
  unfold apprX at hz
  split at hz
  · cases hz
  rename_i hb
  split at hz
  rotate_left
  · cases hz
  rename_i hw
  obtain ⟨hw1, hw2⟩ := hw
  split at hz
  · cases hz
  rename_i hmin
  have hl := leftF_writ hw1
  rw [hl] at hw2
  have hid : (wPst ((j : Int) + 1) D.I[j]).id = wK ((j : Int) + 1) := by unfold wPst; split <;> rfl
  have hfp : findP D.P (wPst ((j : Int) + 1) D.I[j]).id = none := by
    unfold findP
    rw [List.find?_eq_none]
    intro q hq
    obtain ⟨k, hk, e1, e2⟩ := h.ids q hq
    rw [decide_eq_true_eq, hid, e1]
    intro e
    have := wK_inj (by omega) (by omega) e
    obtain rfl : k = j := by omega
    rw [hs] at e2
    cases e2
  have hpe := hz
  unfold postE at hz
  rw [hfp] at hz
  split at hz
  rotate_left
  · cases hz
  rename_i hm
  simp only at hz
  split at hz
  rotate_left
  · cases hz
  rename_i hf
  have hpl : postL D.P (wPst ((j : Int) + 1) D.I[j]) = D.P ++ [wPst ((j : Int) + 1) D.I[j]] := by
    unfold postL
    rw [if_pos (by rw [hm, hfp, hf]; rfl)]
  have hin := h.it _ (List.getElem_mem hj)
  have hO : D.I[j].o ≠ 0 := by omega
  have hD : apprD S D b ((j : Int) + 1) = ⟨D.I.set j { D.I[j] with s := 2 }, D.P ++ [wPst ((j : Int) + 1) D.I[j]]⟩ := by
    unfold apprD
    rw [if_pos hz0, hx]
    simp only
    unfold setI
    rw [hpl, show ((j : Int) + 1 - 1).toNat = j by omega]
  have hbk : Bk (D.P ++ [wPst ((j : Int) + 1) D.I[j]]) := hpl ▸ h.bk.post _
  have hws : ∀ o, wsum o (D.I.set j { D.I[j] with s := 2 }) = wsum o D.I + (if D.I[j].o = o then D.I[j].a else 0) := fun o => by
    rw [wsum_set o _ j hj, wItem, if_neg (by rw [hs]; simp), wItem]
    by_cases h1 : D.I[j].o = o
    · rw [if_pos ⟨h1, rfl⟩, if_pos h1]; dsimp only; omega
    · rw [if_neg (fun hh => h1 hh.1), if_neg h1]; omega
  have hb4 : ∀ o, o ≠ 0 → bal (D.P ++ [wPst ((j : Int) + 1) D.I[j]]) 4 o = wsum o (D.I.set j { D.I[j] with s := 2 }) := fun o ho => by
    rw [bal_snoc, h.b4 o ho, hws, (wPst_delta _ _ o ho).1]
  have hb1 : ∀ o, o ≠ 0 → bal (D.P ++ [wPst ((j : Int) + 1) D.I[j]]) 1 o = -wsum o (D.I.set j { D.I[j] with s := 2 }) := fun o ho => by
    rw [bal_snoc, h.b1 o ho, hws, (wPst_delta _ _ o ho).2]
    omega
  refine ⟨j, hj, rfl, hs, hx, hb, hD, ?_, ?_, ?_, hw2⟩
  · rw [hD]
    refine ⟨hbk, by simpa using h.len, fun z hz => ?_, fun p hp => ?_, hb4, hb1⟩
    · rcases List.mem_or_eq_of_mem_set hz with hz | rfl
      · exact h.it z hz
      · obtain ⟨a1, a2, a3, a4, _⟩ := hin
        exact ⟨a1, a2, a3, a4, rfl⟩
    · rcases List.mem_append.1 hp with hp | hp
      · obtain ⟨k, hk, e1, e2⟩ := h.ids p hp
        have hne : j ≠ k := by
          rintro rfl
          rw [hs] at e2
          cases e2
        refine ⟨k, by simpa using hk, e1, ?_⟩
        simp only
        rw [List.getElem_set_ne hne]
        exact e2
      · obtain rfl := List.mem_singleton.1 hp
        refine ⟨j, by simpa using hj, hid, ?_⟩
        simp only
        rw [List.getElem_set_self]
  · have := leftF_in D.I D.I[j].o writS (hS.bal_in 1 D.I[j].o)
    rw [hl] at this
    exact this
  · have := hbk.bal_in 4 D.I[j].o
    rw [hb4 _ hO, hws, if_pos rfl] at this
    exact this
end Go.Proofs.YtibabfedpdoofaaGreatDoor
namespace Go.Own
open Go.RowKit Go.ChangeShapes Go.WideShapes

theorem trodAll_below {H : Type} {enc : TypeId × Value → H} {P : Program} (hl : laidOutB P = true) {W W' : World} (hb : Below W.heap.size W W') :
    ∀ {ts : List TypeId} {vs : List Value} {ds : List (DataW H)} {ps : List MemPlace}, (∀ t ∈ ts, P.readableRec t = true ∧ t < P.types.size) → (∀ p ∈ ps, p.block < W.heap.size) →
      DataW.TrodAll enc P W 0 (fun _ => true) true ts vs ds ps → DataW.TrodAll enc P W' 0 (fun b => decide (b < W.heap.size)) true ts vs ds ps
  | [], _, _, _, _, _, h => by
    obtain ⟨rfl, rfl, rfl⟩ := trodAll_nil h
    exact trodAll_mk0
  | t :: ts, _, _, _, hr, hp, h => by
    obtain ⟨v, vs1, d, ds1, a, b, rfl, rfl, rfl, h1, h2⟩ := trodAll_cons h
    have ht := hr t List.mem_cons_self
    exact trodAll_cons_mk (Below.trod hl ht.1 ht.2 h1 hb (fun x hx => hp x (List.mem_append_left _ hx)))
      (trodAll_below hl hb (fun u hu => hr u (List.mem_cons_of_mem _ hu)) (fun x hx => hp x (List.mem_append_right _ hx)) h2)

/-- A law's post, from what the walk says: it returns true, and nothing that was there has changed. -/
theorem law_post {H : Type} {enc : TypeId × Value → H} {P : Program} {f : Func} {s : ChangeSpec} {W W' : World} {args : Array Value} {ds gs : List (DataW H)} {before : List MemPlace} {tb : TypeId}
    (hl : laidOutB P = true) (hrd : (f.params.toList.all fun t => P.readableRec t && decide (t < P.types.size)) = true) (hres : f.resultTypes = #[tb]) (htb : P.underlying tb = some .bool) (hvars : s.vars = [])
    (hW : DataW.Whole enc P f.params.toList s.vars false W args.toList ds gs before) (hfn : s.fn H (ds ++ gs) = { results := [.lit (.bool true)], args := ds }) (hb : Below W.heap.size W W') :
    s.post enc P f false true false false W args (.bool true) W' := by
  have hlt := hW.lt
  have hW0 := hW
  obtain ⟨p, q, hA, hV, rfl, hfz, hnd⟩ := hW
  rw [hvars] at hV
  obtain ⟨rfl, rfl⟩ := trodVars_none hV
  have hr : ∀ t ∈ f.params.toList, P.readableRec t = true ∧ t < P.types.size := fun t ht => by
    have := List.all_eq_true.1 hrd t ht
    simpa using this
  refine ⟨ds, [], _, [], p, [], hW0, ?_, ?_, ?_, hb.frame _, fun h => by cases h⟩
  · rw [hfn, hres]
    exact trodAll_mk1 (shut_bool htb true)
  · rw [hfn]
    exact trodAll_below hl hb hr (fun x hx => hlt x (List.mem_append_left _ hx)) hA
  · rw [hfn, hvars]
    rfl
theorem fld {H : Type} {enc : TypeId × Value → H} {P : Program} {w : World} {base : Nat} {spare : Nat → Bool} {held : Bool} {fuel : Nat} {t : TypeId} {fs : Array Field} {cs : List Value} {x : DataW H × List MemPlace}
    (ht : P.underlying t = some (.struct fs)) (h : DataW.trod enc P w base spare held fuel t cs = some x) (j : Nat) (f : Field) (hj : fs[j]? = some f) :
    ∃ n y, DataW.trod enc P w base spare held n f.type ((cs.drop f.offset).take (P.cellsOf f.type)) = some y := by
  obtain ⟨xs, n, _, _, _, hlen, hg⟩ := DataW.trod_struct ht h
  have hlt : j < xs.length := by rw [hlen]; exact (Array.getElem?_eq_some_iff.1 hj).1
  exact ⟨n, xs[j], by rw [hg j f hj]; exact List.getElem?_eq_getElem hlt⟩
end Go.Own
namespace Go.Own
open Go.RowKit Go.Maps Go.WideElems Go.WideShapes

/-- A table at any place of the list. -/
theorem tab_of {P : Program} {W : World} {name : String} {k : IntKind} {zs : List Int} {rest : List (String × DataW Unit)} {ps : List MemPlace} {g : Nat} {t e : TypeId} {n : Nat}
    (hg : P.globalNamed name = some g) (hty : (P.globals[g]?).map (·.type) = some t) (ht : P.underlying t = some (.array n e)) (he : P.underlying e = some (.int k)) (hce : P.cellsOf e = 1) (hct : P.cellsOf t = n)
    (h : DataW.LaidVars P W ((name, Lib.tabData k zs) :: rest) ps) : Lib.TabIs P W name k zs := by
  obtain ⟨g', t', cs, fuel, p, q, hg', ht', hvar, hd, _, _⟩ := h
  obtain rfl := Option.some.inj (hg.symm.trans hg')
  obtain rfl := Option.some.inj (hty.symm.trans ht')
  unfold Lib.TabIs
  rw [hvar, ← Lib.cells_of_tab ht he hce hct hd]
theorem tail_of {P : Program} {W : World} {x : String × DataW Unit} {rest : List (String × DataW Unit)} {ps : List MemPlace} (h : DataW.LaidVars P W (x :: rest) ps) : ∃ qs, DataW.LaidVars P W rest qs := by
  obtain ⟨_, _, _, _, _, q, _, _, _, _, h, _⟩ := h
  exact ⟨q, h⟩
/-- A map of texts to numbers that is laid, as a map's own piece. -/
theorem map_laid {P : Program} {W : World} {k e : TypeId} {kd : IntKind} {fuel b : Nat} {es : Array MapEntry} {clock : Nat} {sp : Nat → Bool} {held : Bool} {base : Nat} {E : List (Lit × DataW Unit)} {f : Lit → Option Value} (K : WideMaps.KeyLaw P k)
    (he : P.underlying e = some (.int kd)) (hb : W.heap[b]? = some (.map es clock)) (F : Fit P k (elemAt (fun _ => ()) P W base sp held fuel e) es clock)
    (hE : E = (es.toList.map (rg P k (elemAt (fun _ => ()) P W base sp held fuel e))).foldr DataW.insert [])
    (h1 : ∀ l d, (l, d) ∈ E → ∃ n, d = .lit (.int kd n) ∧ f l = some (.int kd n)) (h2 : ∀ l, (f l).isSome = true → ∃ d, (l, d) ∈ E) : (mapE P k b es.size f).F W := by
  have key : ∀ x ∈ es.toList, ∃ l n, keyOf P k x.key = some l ∧ x.val = .int kd n ∧ f l = some (.int kd n) ∧ rd (H := Value) P k tokR x = some (l, .held (.int kd n)) ∧ (l, DataW.lit (.int kd n)) ∈ E := fun x hx => by
    obtain ⟨y, hy⟩ := F.reads x hx
    have hk := rd_key hy
    have hm : y ∈ E := by
      rw [hE]
      refine (sorted_perm _).symm.subset (List.mem_map.2 ⟨x, hx, rg_of hy⟩)
    obtain ⟨n, hd, hf⟩ := h1 y.1 y.2 hm
    have hv : x.val = .int kd n := by
      unfold rd at hy
      rw [hk] at hy
      simp only [Option.bind_some, Option.map_eq_some_iff] at hy
      obtain ⟨z, hz, hzy⟩ := hy
      have hz1 : z.1 = y.2 := congrArg Prod.snd hzy
      unfold elemAt at hz
      split at hz
      · rename_i hform
        obtain ⟨n', e1, e2, _⟩ := DataW.trod_int he hz
        rw [← hz1, e2] at hd
        simp only [DataW.lit.injEq, Lit.int.injEq, true_and] at hd
        subst hd
        unfold Value.formed at hform
        rw [he] at hform
        cases hxv : x.val <;> rw [hxv] at e1 hform <;> simp_all [Value.cells]
      · cases hz
    refine ⟨y.1, n, hk, hv, hf, ?_, by rw [← hd]; exact hm⟩
    unfold rd
    rw [hk, hv]
    rfl
  have F' : Fit P k (tokR) es clock := ⟨F.size, F.stamped, fun x hx => by
    obtain ⟨l, n, _, _, _, h, _⟩ := key x hx
    exact ⟨_, h⟩⟩
  refine ⟨_, ⟨es, clock, hb, F', Nat.le_refl _, rfl⟩, ⟨_, rfl⟩, fun l hl z => ?_⟩
  have hs := atKey_sorted (es.toList.map (rg P k tokR)) (Go.ChangeMaps.rising_of_pairwise _ (Go.ChangeMaps.sorted_sorted _ (F'.strKeys K) (F'.apart K))) l hl
  by_cases hh : ∃ x ∈ es.toList, keyOf P k x.key = some l
  · obtain ⟨x, hx, hk⟩ := hh
    obtain ⟨l', n, hk', _, hf, hr, _⟩ := key x hx
    obtain rfl := Option.some.inj (hk.symm.trans hk')
    rw [hf]
    exact hs.2 (l, .held (.int kd n)) (List.mem_map.2 ⟨x, hx, rg_of hr⟩) rfl z
  · have hn : f l = none := by
      cases hfl : f l with
      | none => rfl
      | some v =>
        obtain ⟨d, hd⟩ := h2 l (by rw [hfl]; rfl)
        rw [hE] at hd
        obtain ⟨x, hx, hxe⟩ := List.mem_map.1 ((sorted_perm _).subset hd)
        obtain ⟨y, hy⟩ := F.reads x hx
        rw [rg_of hy] at hxe
        subst hxe
        exact absurd ⟨x, hx, rd_key hy⟩ hh
    rw [hn]
    refine hs.1 (fun p hp => ?_) z
    obtain ⟨x, hx, rfl⟩ := List.mem_map.1 hp
    obtain ⟨l', n, hk', _, _, hr, _⟩ := key x hx
    rw [rg_of hr]
    intro e
    exact hh ⟨x, hx, by rw [hk']; exact congrArg some e⟩
end Go.Own
namespace Go.Proofs.YtibabfedpdoofaaGreatDoor
open Go.RowKit Go.Own Go.Maps Go.WideElems Go.ChangeShapes Go.WideShapes

theorem own : ownKnob Tryz.prog.godebug = none := by kernel_rfl
theorem laidOut : laidOutB Tryz.prog = true := by kernel_rfl
theorem gTab : Tryz.prog.globalNamed "consignor/keys.parties" = some 2 := by kernel_rfl
theorem gTabType : (Tryz.prog.globals[2]?).map (·.type) = some 70 := by kernel_rfl
theorem gDeed : Tryz.prog.globalNamed "consignor/keys.deeds" = some 0 := by kernel_rfl
theorem gDeedType : (Tryz.prog.globals[0]?).map (·.type) = some 242 := by kernel_rfl
theorem gPowType : (Tryz.prog.globals[1]?).map (·.type) = some 262 := by kernel_rfl
theorem cellsTab : Tryz.prog.cellsOf 70 = 6 := by kernel_rfl
theorem cellsPow : Tryz.prog.cellsOf 262 = 20 := by kernel_rfl
theorem cellsInt : Tryz.prog.cellsOf 3 = 1 := by kernel_rfl
theorem cellsU64 : Tryz.prog.cellsOf 226 = 1 := by kernel_rfl
theorem deeds_met {W : World} {ps : List MemPlace} (h : DataW.LaidVars Tryz.prog W [("consignor/keys.deeds", Rows.laid_consignor_keys_deeds)] ps) : DeedsLaid W := by
  obtain ⟨g', t', cs, fuel, p, q, hg', ht', hvar, hd, _, _⟩ := h
  obtain rfl := Option.some.inj (gDeed.symm.trans hg')
  obtain rfl := Option.some.inj (gDeedType.symm.trans ht')
  have hc := fun i v (hi : cs[i]? = some v) => World.var?_cell gDeed hvar i ▸ hi
  rcases open_map Tryz.underlying242 hd with ⟨_, h2⟩ | ⟨b, es, clock, n, rfl, hcs, hb, _, F, hx⟩
  · cases h2
  · have h0 : cs[0]? = some (.map (some b)) := by
      have := congrArg (·[0]?) hcs
      simpa using this
    have hcell : W.cell? ⟨0, 0, none⟩ = some (.map (some b)) := by rw [World.var?_cell gDeed hvar 0]; exact h0
    have hE := congrArg Prod.fst hx
    simp only [Rows.laid_consignor_keys_deeds, DataW.map.injEq] at hE
    refine ⟨World.block_lt_of_cell? W _ hcell, b, es.size, hcell, map_laid (WideMaps.string_law Tryz.underlying9) Tryz.underlying3 hb F hE ?_ ?_⟩
    · intro l d hm
      simp only [List.mem_cons, List.not_mem_nil, or_false, Prod.mk.injEq] at hm
      rcases hm with ⟨rfl, rfl⟩ | ⟨rfl, rfl⟩ | ⟨rfl, rfl⟩ | ⟨rfl, rfl⟩ | ⟨rfl, rfl⟩ | ⟨rfl, rfl⟩
      all_goals exact ⟨_, rfl, rfl⟩
    · intro l hl
      obtain ⟨v, hv⟩ := Option.isSome_iff_exists.1 hl
      obtain ⟨d, h0, h5, rfl, rfl⟩ := deedsF_inv hv
      have : d = 0 ∨ d = 1 ∨ d = 2 ∨ d = 3 ∨ d = 4 ∨ d = 5 := by omega
      rcases this with rfl | rfl | rfl | rfl | rfl | rfl
      all_goals exact ⟨_, by simp [deedL]; rfl⟩
/-- What the rows' list gives. -/
theorem laidE_of {W : World} (h : laidMetH Tryz.prog [("math/bits.deBruijn32tab", Rows.laid_math_bits_deBruijn32tab), ("math/bits.deBruijn64tab", Rows.laid_math_bits_deBruijn64tab), ("internal/strconv.uint64pow10", Rows.laid_internal_strconv_uint64pow10), ("consignor/keys.parties", Rows.laid_consignor_keys_parties), ("consignor/keys.deeds", Rows.laid_consignor_keys_deeds)] W) : LaidE W := by
  obtain ⟨ps, h, _⟩ := (h : laidMet Tryz.prog _ W)
  obtain ⟨_, h⟩ := tail_of h
  obtain ⟨_, h⟩ := tail_of h
  have T : Lib.TabIs Tryz.prog W "internal/strconv.uint64pow10" .u64 Lib.pow10Tab := tab_of gPow gPowType Tryz.underlying262 Tryz.underlying226 cellsU64 cellsPow h
  obtain ⟨_, h⟩ := tail_of h
  have P : Lib.TabIs Tryz.prog W "consignor/keys.parties" .i64 [1, 0, 2, 1, 0, 2] := tab_of gTab gTabType Tryz.underlying70 Tryz.underlying3 cellsInt cellsTab h
  obtain ⟨_, h⟩ := tail_of h
  have c0 : W.cell? ⟨2, 0, none⟩ = some (.int .i64 1) := P.cell gTab 0 (by decide)
  exact ⟨⟨World.block_lt_of_cell? W _ c0, c0, P.cell gTab 1 (by decide), P.cell gTab 2 (by decide), P.cell gTab 3 (by decide), P.cell gTab 4 (by decide), P.cell gTab 5 (by decide)⟩, deeds_met h, T⟩
/-- A world for a witness: the settled one, tables and map holding what their initialisers lay. -/
def litVal : DataW Unit → Value
  | .lit (.int k n) => .int k n
  | _ => .int .u8 0
def litCells : DataW Unit → Array Value
  | .agg ps => (ps.map litVal).toArray
  | _ => #[]
def putCells (cs : Array Value) : Obj → Obj
  | .cells _ t frozen => .cells cs t frozen
  | o => o
def deedsObj : Obj := .map #[⟨.string ⟨#[99, 104, 97, 114, 103, 101]⟩, .int .i64 1, 0⟩, ⟨.string ⟨#[114, 101, 102, 117, 110, 100]⟩, .int .i64 4, 1⟩, ⟨.string ⟨#[114, 101, 108, 101, 97, 115, 101]⟩, .int .i64 3, 2⟩, ⟨.string ⟨#[114, 101, 115, 101, 114, 118, 101]⟩, .int .i64 0, 3⟩, ⟨.string ⟨#[115, 104, 105, 112]⟩, .int .i64 2, 4⟩, ⟨.string ⟨#[118, 111, 105, 100]⟩, .int .i64 5, 5⟩] 6
def laidHeap (h : Array Obj) : Array Obj :=
  let h1 := h.modify 3 (putCells (litCells Rows.laid_math_bits_deBruijn32tab))
  let h2 := h1.modify 4 (putCells (litCells Rows.laid_math_bits_deBruijn64tab))
  let h3 := h2.modify 1 (putCells (litCells Rows.laid_internal_strconv_uint64pow10))
  let h4 := h3.modify 2 (putCells (litCells Rows.laid_consignor_keys_parties))
  let h5 := h4.modify 0 (putCells #[.map (some h.size)])
  h5.push deedsObj
noncomputable def laidWorld (os : Os) : World :=
  { World.holding Tryz.prog os ⟨#[], #[], []⟩ with heap := laidHeap (World.holding Tryz.prog os ⟨#[], #[], []⟩).heap }
end Go.Proofs.YtibabfedpdoofaaGreatDoor
namespace Go.Own
open Go.RowKit Go.ChangeShapes Go.WideShapes Go.Deep

theorem five_of {l : List Value} (h : l.length = 5) : ∃ a b c d e, l = [a, b, c, d, e] := by
  match l, h with
  | [a, b, c, d, e], _ => exact ⟨a, b, c, d, e, rfl⟩
theorem addr_add1 (c : Addr) (k : Nat) : c.add (k + 1) = ⟨c.block, c.off + (k + 1), none⟩ := by simp [Addr.add]
/-- Structs of k cells that came in; f: a struct's cells; p: what is known of each. -/
theorem slice_of {H R : Type} [Inhabited R] {enc : TypeId × Value → H} {P : Program} {W : World} {base : Nat} {spare : Nat → Bool} {held : Bool} {fuel : Nat} {t e : TypeId} {cs : List Value} {x : DataW H × List MemPlace} {k : Nat} (f : R → List Value) (p : R → Prop)
    (ht : P.underlying t = some (.slice e)) (hk : P.cellsOf e = k) (hpos : 0 < k) (hf : ∀ r, (f r).length = k)
    (hel : ∀ (fuel' : Nat) (cs' : List Value) (x' : DataW H × List MemPlace), DataW.trod enc P W base spare held fuel' e cs' = some x' → cs'.length = k → ∃ r, cs' = f r ∧ p r)
    (h : DataW.trod enc P W base spare held fuel t cs = some x) : ∃ (v : Value) (L : List R), cs = [v] ∧ IsL W k v (L.map f) ∧ ∀ r ∈ L, p r := by
  rcases open_slice ht h with ⟨rfl, rfl⟩ | ⟨a, len, cap, m, n, D, Pl, rfl, hb, hl, hm, hmm, hx, hi⟩
  · exact ⟨_, [], rfl, .none _ _ (fun _ => rfl), by simp⟩
  · rw [hk] at hi
    have hlm : len ≤ m := by rw [hmm]; split <;> omega
    have hr : ∀ i, i < len → ∃ r : R, (∀ j (u : Value), (f r)[j]? = some u → W.cell? ((a.add (i * k)).add j) = some u) ∧ p r := fun i him => by
      obtain ⟨cs', hc, ht⟩ := hi i (by omega)
      obtain ⟨_, hlen, hg⟩ := World.cells?_some hc
      obtain ⟨r, rfl, hp⟩ := hel _ _ _ ht hlen
      refine ⟨r, fun j u hu => ?_, hp⟩
      have hj : j < k := by
        have := (List.getElem?_eq_some_iff.1 hu).1
        rwa [hf] at this
      rw [hg j hj]
      simpa using hu
    obtain ⟨G, hG⟩ := choose_lt (α := R) (p := fun i r => (∀ j (u : Value), (f r)[j]? = some u → W.cell? ((a.add (i * k)).add j) = some u) ∧ p r) hr
    refine ⟨_, (List.range len).map G, rfl, ?_, fun r hr => ?_⟩
    · by_cases h0 : len = 0
      · subst h0; exact .none _ _ (fun e => by cases e)
      have hL : (((List.range len).map G).map f).length = len := by simp
      have key : IsL W k (.slice (some a) (((List.range len).map G).map f).length cap) (((List.range len).map G).map f) := by
        refine .some a cap _ (by omega) hm (by omega) ⟨?_, fun i h j u hu => ?_⟩
        · have h1 : 0 < (f (G 0)).length := by rw [hf]; exact hpos
          have := World.block_lt_of_cell? W _ ((hG 0 (by omega)).1 0 _ (List.getElem?_eq_getElem h1))
          rwa [lBlock, lBlock] at this
        · rw [hL] at h
          simp only [List.getElem_map, List.getElem_range] at hu
          exact (hG i h).1 j u hu
      rwa [hL] at key
    · obtain ⟨i, hi', rfl⟩ := List.mem_map.1 hr
      exact (hG i (List.mem_range.1 hi')).2
theorem twelve {l : List Value} (h : l.length = 12) : ∃ a b c d e f g h i j k m, l = [a, b, c, d, e, f, g, h, i, j, k, m] := by
  match l, h with
  | [a, b, c, d, e, f, g, h, i, j, k, m], _ => exact ⟨a, b, c, d, e, f, g, h, i, j, k, m, rfl⟩
end Go.Own
namespace Go.Proofs.YtibabfedpdoofaaGreatDoor
open Go.RowKit Go.Own Go.ChangeShapes Go.WideShapes Go.Deep

theorem cellsI64 : Tryz.prog.cellsOf 2 = 1 := by kernel_rfl
theorem cellsKey : Tryz.prog.cellsOf 29 = 2 := by kernel_rfl
theorem cellsStr : Tryz.prog.cellsOf 9 = 1 := by kernel_rfl
theorem cellsOrder : Tryz.prog.cellsOf 27 = 5 := by kernel_rfl
theorem cellsStmt : Tryz.prog.cellsOf 32 = 3 := by kernel_rfl
theorem cellsEnt : Tryz.prog.cellsOf 34 = 12 := by kernel_rfl
theorem cellsRow : Tryz.prog.cellsOf 160 = 5 := by kernel_rfl
theorem cellsRows : Tryz.prog.cellsOf 30 = 1 := by kernel_rfl
set_option maxRecDepth 100000 in
theorem row_of {H : Type} {enc : TypeId × Value → H} {W : World} {base : Nat} {spare : Nat → Bool} {held : Bool} {fuel : Nat} {cs : List Value} {x : DataW H × List MemPlace}
    (h : DataW.trod enc Tryz.prog W base spare held fuel 160 cs = some x) (hl : cs.length = 5) : ∃ r : RowS, cs = r.cells.toList := by
  obtain ⟨a, b, c, d, e, rfl⟩ := five_of hl
  obtain ⟨_, _, hk⟩ := fld Tryz.underlying160 h 0 _ rfl
  obtain ⟨_, _, h1⟩ := fld Tryz.underlying160 h 1 _ rfl
  obtain ⟨_, _, h2⟩ := fld Tryz.underlying160 h 2 _ rfl
  obtain ⟨_, _, h3⟩ := fld Tryz.underlying160 h 3 _ rfl
  obtain ⟨_, _, k0⟩ := fld Tryz.underlying29 hk 0 _ rfl
  obtain ⟨_, _, k1⟩ := fld Tryz.underlying29 hk 1 _ rfl
  obtain ⟨n1, e1, _, _⟩ := DataW.trod_int Tryz.underlying3 k0
  obtain ⟨n2, e2, _, _⟩ := DataW.trod_int Tryz.underlying3 k1
  obtain ⟨n3, e3, _, _⟩ := DataW.trod_int Tryz.underlying3 h1
  obtain ⟨n4, e4, _, _⟩ := DataW.trod_int Tryz.underlying2 h2
  obtain ⟨n5, e5, _, _⟩ := DataW.trod_int Tryz.underlying3 h3
  simp [cellsInt, cellsI64, cellsKey] at e1 e2 e3 e4 e5
  subst e1 e2 e3 e4 e5
  exact ⟨⟨n1, n2, n3, n4, n5⟩, rfl⟩
instance : Inhabited RowS := ⟨⟨0, 0, 0, 0, 0⟩⟩
set_option maxRecDepth 100000 in
/-- Rows that came in. -/
theorem rows_of {H : Type} {enc : TypeId × Value → H} {W : World} {base : Nat} {spare : Nat → Bool} {held : Bool} {fuel : Nat} {cs : List Value} {x : DataW H × List MemPlace}
    (h : DataW.trod enc Tryz.prog W base spare held fuel 30 cs = some x) : ∃ v rs, cs = [v] ∧ IsRows W v rs := by
  rcases open_slice Tryz.underlying30 h with ⟨rfl, rfl⟩ | ⟨a, len, cap, m, n, D, Pl, rfl, hb, hl, hm, hmm, hx, hi⟩
  · exact ⟨_, [], rfl, .none _ _ (fun _ => rfl)⟩
  · rw [cellsRow] at hi
    have hlm : len ≤ m := by rw [hmm]; split <;> omega
    have hr : ∀ i, i < len → ∃ r : RowS, ∀ k (u : Value), r.cells[k]? = some u → W.cell? ((a.add (i * 5)).add k) = some u := fun i him => by
      obtain ⟨cs', hc, ht⟩ := hi i (by omega)
      obtain ⟨_, hlen, hg⟩ := World.cells?_some hc
      obtain ⟨r, rfl⟩ := row_of ht hlen
      refine ⟨r, fun k u hu => ?_⟩
      have hk : k < 5 := by
        have := (Array.getElem?_eq_some_iff.1 hu).1
        simpa [RowS.cells] using this
      rw [hg k hk]
      simpa using hu
    obtain ⟨R, hR⟩ := choose_lt (α := RowS) (p := fun i r => ∀ k (u : Value), r.cells[k]? = some u → W.cell? ((a.add (i * 5)).add k) = some u) hr
    refine ⟨_, (List.range len).map R, rfl, ?_⟩
    by_cases h0 : len = 0
    · subst h0; exact .none _ _ (fun e => by cases e)
    have hL : ((List.range len).map R).length = len := by simp
    have key : IsRows W (.slice (some a) ((List.range len).map R).length cap) ((List.range len).map R) := by
      refine .some a cap _ (by omega) hm (by omega) ⟨?_, fun i h => ?_, fun i h => ?_, fun i h => ?_, fun i h => ?_, fun i h => ?_⟩
      · have := World.block_lt_of_cell? W _ (hR 0 (by omega) 0 _ rfl)
        rwa [add_block, add_block] at this
      all_goals
        rw [hL] at h
        simp only [List.getElem_map, List.getElem_range]
      · exact hR i h 0 _ rfl
      · rw [← addr_add1]; exact hR i h 1 _ rfl
      · rw [← addr_add1]; exact hR i h 2 _ rfl
      · rw [← addr_add1]; exact hR i h 3 _ rfl
      · rw [← addr_add1]; exact hR i h 4 _ rfl
    rwa [hL] at key
theorem wf_inI {n : Int} (h : (Lit.int .i64 n).wf = true) : inI n = true := by
  simp [Lit.wf, IntKind.min, IntKind.max, IntKind.bits, IntKind.signed] at h
  exact inI_iff.2 (by omega)
instance : Inhabited EntI := ⟨⟨⟨0, 0, [], [], 0, 0, 0, 0, 0, 0, 0, []⟩, .slice none 0 0⟩⟩
set_option maxRecDepth 100000 in
set_option maxHeartbeats 4000000 in
theorem entCells_of {H : Type} {enc : TypeId × Value → H} {W : World} {base : Nat} {spare : Nat → Bool} {held : Bool} {fuel : Nat} {cs : List Value} {x : DataW H × List MemPlace}
    (hf : DataW.trod enc Tryz.prog W base spare held fuel 34 cs = some x) (hl : cs.length = 12) : ∃ e : EntI, cs = entC e ∧ IsRows W e.v e.x.rs ∧ e.x.ref.length ≤ maxLen ∧ e.x.sku.length ≤ maxLen ∧ inI e.x.o = true := by
  obtain ⟨a, b, c, d, e, f, g, h', i, j, k, m, rfl⟩ := twelve hl
  obtain ⟨_, _, h0⟩ := fld Tryz.underlying34 hf 0 _ rfl
  obtain ⟨_, _, ho⟩ := fld Tryz.underlying34 hf 1 _ rfl
  obtain ⟨_, _, hk⟩ := fld Tryz.underlying34 hf 2 _ rfl
  obtain ⟨_, _, h8⟩ := fld Tryz.underlying34 hf 3 _ rfl
  obtain ⟨_, _, hs⟩ := fld Tryz.underlying34 hf 4 _ rfl
  obtain ⟨_, _, h1⟩ := fld Tryz.underlying27 ho 0 _ rfl
  obtain ⟨_, _, h2⟩ := fld Tryz.underlying27 ho 1 _ rfl
  obtain ⟨_, _, h3⟩ := fld Tryz.underlying27 ho 2 _ rfl
  obtain ⟨_, _, h4⟩ := fld Tryz.underlying27 ho 3 _ rfl
  obtain ⟨_, _, h5⟩ := fld Tryz.underlying27 ho 4 _ rfl
  obtain ⟨_, _, h6⟩ := fld Tryz.underlying29 hk 0 _ rfl
  obtain ⟨_, _, h7⟩ := fld Tryz.underlying29 hk 1 _ rfl
  obtain ⟨_, _, h9⟩ := fld Tryz.underlying32 hs 0 _ rfl
  obtain ⟨_, _, h10⟩ := fld Tryz.underlying32 hs 1 _ rfl
  obtain ⟨_, _, h11⟩ := fld Tryz.underlying32 hs 2 _ rfl
  obtain ⟨n0, e0, _, _⟩ := DataW.trod_int Tryz.underlying3 h0
  obtain ⟨n1, e1, _, _⟩ := DataW.trod_int Tryz.underlying3 h1
  obtain ⟨s2, e2, _, l2⟩ := DataW.trod_string Tryz.underlying9 h2
  obtain ⟨s3, e3, _, l3⟩ := DataW.trod_string Tryz.underlying9 h3
  obtain ⟨n4, e4, _, _⟩ := DataW.trod_int Tryz.underlying3 h4
  obtain ⟨n5, e5, _, _⟩ := DataW.trod_int Tryz.underlying2 h5
  obtain ⟨n6, e6, _, w6⟩ := DataW.trod_int Tryz.underlying3 h6
  obtain ⟨n7, e7, _, _⟩ := DataW.trod_int Tryz.underlying3 h7
  obtain ⟨n8, e8, _, _⟩ := DataW.trod_int Tryz.underlying3 h8
  obtain ⟨n9, e9, _, _⟩ := DataW.trod_int Tryz.underlying3 h9
  obtain ⟨n10, e10, _, _⟩ := DataW.trod_int Tryz.underlying3 h10
  obtain ⟨u, rs, e11, hu⟩ := rows_of h11
  simp [cellsInt, cellsI64, cellsStr, cellsKey, cellsOrder, cellsStmt, cellsRows] at e0 e1 e2 e3 e4 e5 e6 e7 e8 e9 e10 e11
  subst e0 e1 e2 e3 e4 e5 e6 e7 e8 e9 e10 e11
  exact ⟨⟨⟨n0, n1, s2.data.toList, s3.data.toList, n4, n5, n6, n7, n8, n9, n10, rs⟩, _⟩, by simp [entC], hu, by simpa using l2, by simpa using l3, wf_inI w6⟩
set_option maxRecDepth 100000 in
theorem ents_of {H : Type} {enc : TypeId × Value → H} {W : World} {base : Nat} {spare : Nat → Bool} {held : Bool} {v : Value} {d : DataW H} {p : List MemPlace}
    (h : DataW.Trod enc Tryz.prog W base spare held 22 v d p) (hv : v.cells.toList = [v]) : ∃ es : List EntI, IsEnts W v es := by
  obtain ⟨fuel, hf⟩ := h
  obtain ⟨u, es, e, hI, hw⟩ := slice_of entC (fun e => IsRows W e.v e.x.rs ∧ e.x.ref.length ≤ maxLen ∧ e.x.sku.length ≤ maxLen ∧ inI e.x.o = true) Tryz.underlying22 cellsEnt (by decide) (fun _ => rfl) (fun _ _ _ h hl => entCells_of h hl) hf
  rw [hv] at e
  obtain rfl : v = u := by simpa using e
  exact ⟨es, ⟨hI, hw⟩⟩
end Go.Proofs.YtibabfedpdoofaaGreatDoor

/-
  What an order's tries came to, by walking the document's text; conditions: the core is one that entries come to.
  A reference of a few, two lists compared, by walking the law's text; conditions: none.
  The chapter's orders that are tried again, by walking the law's text; conditions: the laid tables.
  AgainTell, by walking the law's text; conditions: the arguments lie in memory, the laid tables.
  Bytes that came in as a slice, a number that came in; conditions: none.
-/
import Derived.Test.YtibabfedpdoofaaGreatDoorQa1
import Derived.Test.YtibabfedpdoofaaGreatDoorQa13
import Derived.Test.YtibabfedpdoofaaGreatDoorQb1
import Derived.Test.YtibabfedpdoofaaGreatDoorQj1
namespace Go.Proofs.YtibabfedpdoofaaGreatDoor
open Go.RowKit Go.Own Go.Maps

theorem chStep_false (L : List (OrdS × D6)) : ∀ (l : List Nat) (s : Int × Bool), s.2 = false → l.foldl (chStep L) s = s
  | [], _, _ => rfl
  | n :: l, s, h => by
    rw [List.foldl_cons, show chStep L s n = s by unfold chStep; rw [if_neg (by simp [h])]]
    exact chStep_false L l s h
theorem chFold_false {L : List (OrdS × D6)} {l : List Nat} {j : Nat} (h : ((l.take j).foldl (chStep L) (0, decide (0 < l.length))).2 = false) : (chFold L l).2 = false := by
  unfold chFold
  rw [← List.take_append_drop j l, List.foldl_append, List.take_append_drop j l, chStep_false L _ _ h]
  exact h

set_option maxHeartbeats 16000000 in
set_option maxRecDepth 100000 in
theorem rCharged_any {W : World} {x : RcA} {S : CoS} {A : InS} (h : RcAt W x S A) (hl : S.L.length ≤ 60) (ho : ∀ x ∈ S.L, ordE x.1 = 0) {id : Int} (hid : inI id = true) : Calls Tryz.prog 19 #[.pointer (some ⟨x.r, 0, none⟩), .int .i64 id] W fun e w' => e = .returned (.tuple #[.int .i64 (chargedR S.L id).1, .bool (chargedR S.L id).2]) ∧ Below W.heap.size W w' := by
  have HO := Own.start W
  have CH := fun w' (hb : Below W.heap.size W w') => rChain_any (h.below hb) hl (refsOk_of ho) hid
  obtain ⟨p, c, hv, -⟩ := h.s.l.slice
  rw [List.length_map] at hv
  have HRs := Lib.hid h.s.l
  have h0 := old_cell h.box 0 rfl
  have hlt := old_lt h.box
  rw [hv] at h0
  generalize ha : x.v = av at *
  subst hv
  clear h ha
  have HN := Lib.hid (fun (m : Nat) (hm : m < S.L.length) => show netOf S.L (m + 1) = netS S.L[m].1 S.L[m].2 from by unfold netOf; rw [ordAt_yes (L := S.L) (id := ((m + 1 : Nat) : Int)) (j := m) (by omega) hm])
  have HB := Lib.hid (fun x hx s => netS_bound (o := x) hx s)
  have hin := Lib.hid (chainL_in (L := S.L) (id := id)).2
  have hcl := (chainL_in (L := S.L) (id := id)).1
  have HR := Lib.hid (show chargedR S.L id = if (chFold S.L (chainL S.L id)).2 = true then ((chFold S.L (chainL S.L id)).1, true) else (0, false) from rfl)
  have HF := Lib.hid (show chFold S.L (chainL S.L id) = (chainL S.L id).foldl (chStep S.L) (0, decide (0 < (chainL S.L id).length)) from rfl)
  have HZ := Lib.hid (fun j => chFold_false (L := S.L) (l := chainL S.L id) (j := j))
  generalize chargedR S.L id = cr at *
  generalize chFold S.L (chainL S.L id) = cf at *
  generalize chainL S.L id = l at *
  go_enter Tryz.func19, Tryz.ntmps19
  go_wp2_with (first | go_big_skip | (go_at_call 22; go_must ((with_reducible refine (CH _ HO.grown).mono ?_); rintro e w ⟨v7, rfl, HO1⟩; replace HO := HO.lift HO1; clear HO1; rw [List.append_nil] at HO; obtain ⟨⟨p7, c7, rfl⟩, -⟩ := HO.rowForm (.head _); rw [List.length_map] at HO ⊢)))
  clear CH
  have HS := Lib.hid (fun (j : Nat) (hj : j < l.length) => show (l.take (j + 1)).foldl (chStep S.L) (0, decide (0 < l.length)) = chStep S.L ((l.take j).foldl (chStep S.L) (0, decide (0 < l.length))) l[j] from by rw [List.take_succ_eq_append_getElem hj, List.foldl_append]; rfl)
  have HI := Lib.hid (fun (j : Nat) => chFold_in S.L (l.take j) (0, decide (0 < l.length)) rfl)
  go_loopw [7, 8] (fun sv iv wr => ∃ (j : Nat) (s : Int × Bool), j ≤ l.length ∧ s = (l.take j).foldl (chStep S.L) (0, decide (0 < l.length)) ∧ s.2 = decide (0 < l.length) ∧ sv = .int .i64 s.1 ∧ iv = .int .i64 (j : Int) ∧ Own W wr [row 3 1 (.slice p7 l.length c7) (l.map intC)]) (fun _ iv _ => l.length - (intOf iv).toNat)
  case atStart => exact ⟨0, _, by omega, rfl, rfl, rfl, rfl, HO⟩
  case round =>
    clear HO
    obtain ⟨j, s, hj, hs, hs2, rfl, rfl, HO⟩ := hrel
    by_cases hjl : j < l.length
    · have hjI : (j : Int) < (l.length : Int) := by omega
      have hok : s.2 = true := by rw [hs2, decide_eq_true (show 0 < l.length by omega)]
      obtain ⟨q, rfl⟩ : ∃ q, p7 = some q := by
        obtain ⟨q, c', h⟩ := (HO.rowForm (v := .slice p7 l.length c7) (.head _)).2 (by rw [List.length_map]; omega)
        rw [List.length_map] at h
        cases h
        exact ⟨q, rfl⟩
      have RW := Lib.hid (fun (w' : World) (h1 : Own W w' [row 3 1 (.slice (some q) l.length c7) (l.map intC)]) => show w'.cell? (q.add j) = some (.int .i64 (l[j] : Int)) from by
        have h2 := isL_cell' (isL_of_owns (intC_len l) (h1.has _ List.mem_cons_self)) (j := j) (by simpa using hjl) 0 (.int .i64 (l[j] : Int)) (by simp [intC])
        rwa [Nat.mul_one, add0] at h2)
      have HSj := HS.out j hjl
      have HIj := HI.out j
      have HZj := Lib.hid (HZ.out (j + 1))
      obtain ⟨n1, n2⟩ := hin.out _ (List.getElem_mem hjl)
      rw [← hs] at HSj HIj
      clear hs HS HI HZ hin
      obtain ⟨sm, ok⟩ := s
      obtain rfl : ok = true := hok
      obtain ⟨m, hm⟩ : ∃ m, l[j] = m + 1 := ⟨l[j] - 1, by omega⟩
      have hml : m < S.L.length := by omega
      have HNm := HN.out m hml
      have hxm := ho _ (List.getElem_mem hml)
      obtain ⟨b, rfl, hcl2⟩ := oldAt HRs.out rfl hml
      rw [hm] at HSj RW
      rw [show chStep S.L (sm, true) (m + 1) = addI sm (netOf S.L (m + 1)) by unfold chStep; rw [if_pos rfl], HNm] at HSj
      clear HNm HN HRs hm n1 n2
      have hnb := HB.out _ hxm S.L[m].2
      generalize S.L[m] = x9 at *
      obtain ⟨o, d⟩ := x9
      unfold sagaL at hcl2
      have HL := Lib.hid (fun w' (h1 : Below W.heap.size W w') => hcl2 w' h1)
      clear hcl2
      have NT := fun w => refSagaNet_any o d w
      simp only [sagaV] at NT
      simp only at HSj HIj hnb
      have hni : inI (netS o d) = true := inI_iff.2 (by omega)
      have AD := fun w => rAdd_any HIj hni w
      have e1 : IntKind.i64.wrap (((m + 1 : Nat) : Int) - 1) = (m : Int) := by rw [wrap_in (inI_iff.2 (by omega))]; omega
      have hmI : (m : Int) < (S.L.length : Int) := by omega
      generalize netS o d = nv at *
      generalize haa : addI sm nv = aa at *
      obtain ⟨a1, a2⟩ := aa
      clear hxm hnb haa hni HIj
      have hs2' := hs2
      replace HSj := Lib.hid HSj
      replace hs2 := Lib.hid hs2
      clear hs2'
      generalize hmm : ((m + 1 : Nat) : Int) = mi at *
      go_upto_region 6 with (first | go_big_skip | (first | go_big_skip | ((with_reducible apply wpList_loadAll HO); exact rfl; exact rfl; (repeat (with_reducible (first | exact At.head _ | apply At.tail))); infer_instance; exact rfl; exact rfl; (simp only [Act.put, zA, zB, zC])) | ((with_reducible apply wpList_loadOne HO); exact rfl; exact rfl; (repeat (with_reducible (first | exact At.head _ | apply At.tail))); exact rfl; infer_instance; exact rfl; (simp only [Act.put, zA, zB, zC]))))
      refine region_own HO (by kernel_rfl) (by kernel_rfl) ?_
      clear HO
      intro F HF
      repeat (first | (first | ((with_reducible apply wpQuiet_loadOld1 HF); exact rfl; exact rfl; exact hlt; exact h0; infer_instance; exact rfl; (simp only [Act.put, zA, zB, zC])) | ((with_reducible apply wpQuiet_loadAt1 HF); exact rfl; exact rfl; exact (RW.out); infer_instance; exact rfl; (simp only [Act.put, zA, zB, zC])) | ((with_reducible apply wpQuiet_loadAt HF); exact rfl; exact rfl; exact (fun w' h1 => HL.out w' (Own.grown h1)); infer_instance; exact rfl; exact rfl; (simp only [Act.put, zA, zB, zC]))) | go_big_quiet_step ((first | (go_at_call 76; (with_reducible exact calls_fam HF (NT _))) | (go_at_call 75; (with_reducible exact calls_fam HF (AD _))))))
      refine wpQuiet_nil ?_
      intro x
      have HO := HF.own x
      clear HF
      generalize F x = w at *
      clear x F
      cases a2 with
      | true =>
        go_wp2_with (first | go_big_skip | (first | go_big_skip | ((with_reducible apply wpList_loadAll HO); exact rfl; exact rfl; (repeat (with_reducible (first | exact At.head _ | apply At.tail))); infer_instance; exact rfl; exact rfl; (simp only [Act.put, zA, zB, zC])) | ((with_reducible apply wpList_loadOne HO); exact rfl; exact rfl; (repeat (with_reducible (first | exact At.head _ | apply At.tail))); exact rfl; infer_instance; exact rfl; (simp only [Act.put, zA, zB, zC]))))
        go_roundw
        case rel => exact ⟨j + 1, (a1, true), by omega, HSj.out.symm, hs2.out, rfl, by go_num, HO⟩
        case measure => simp [intOf] <;> omega
      | false =>
        have hzf := HZj.out (by rw [HSj.out])
        rw [hzf, if_neg (by simp)] at HR
        obtain rfl := HR.out
        go_wp2_with (first | go_big_skip | (first | go_big_skip | ((with_reducible apply wpList_loadAll HO); exact rfl; exact rfl; (repeat (with_reducible (first | exact At.head _ | apply At.tail))); infer_instance; exact rfl; exact rfl; (simp only [Act.put, zA, zB, zC])) | ((with_reducible apply wpList_loadOne HO); exact rfl; exact rfl; (repeat (with_reducible (first | exact At.head _ | apply At.tail))); exact rfl; infer_instance; exact rfl; (simp only [Act.put, zA, zB, zC]))))
        go_ret2
        exact ⟨rfl, HO.grown⟩
    · obtain rfl : j = l.length := by omega
      rw [List.take_length] at hs
      have hz : s.2 = false → s.1 = 0 := fun h => by
        rw [hs2, decide_eq_false_iff_not] at h
        rw [hs, List.length_eq_zero_iff.1 (show l.length = 0 by omega)]
        rfl
      rw [← HF.out] at hs
      subst hs
      have hd0 : decide ((0 : Int) < (l.length : Int)) = decide (0 < l.length) := by
        by_cases h : 0 < l.length
        · rw [decide_eq_true h, decide_eq_true (by omega)]
        · rw [decide_eq_false h, decide_eq_false (by omega)]
      obtain ⟨sm, ok⟩ := s
      simp only at hs2
      rw [← hs2] at hd0
      cases ok with
      | true =>
        rw [if_pos rfl] at HR
        obtain rfl := HR.out
        replace hs2 := Lib.hid hs2.symm
        clear hz
        go_wp2_with fail
        go_ret2
        exact ⟨congrArg (fun b => Ending.returned (.tuple #[.int .i64 sm, .bool b])) hs2.out, HO.grown⟩
      | false =>
        rw [if_neg (by simp)] at HR
        obtain rfl := HR.out
        obtain rfl : sm = 0 := hz rfl
        replace hs2 := Lib.hid hs2.symm
        clear hz
        go_wp2_with fail
        go_ret2
        exact ⟨congrArg (fun b => Ending.returned (.tuple #[.int .i64 0, .bool b])) hs2.out, HO.grown⟩
end Go.Proofs.YtibabfedpdoofaaGreatDoor
namespace Go.Proofs.YtibabfedpdoofaaGreatDoor
open Go.RowKit Go.Own Go.Maps

set_option maxHeartbeats 16000000 in
set_option maxRecDepth 100000 in
theorem ref34_any {n : Nat} (hn : n ≤ 255) (w : World) : Calls Tryz.prog 13 #[.int .u8 (n : Int)] w fun e w' => (∃ s : List UInt8, s.length ≤ 100 ∧ e = .returned (.string ⟨s.toArray⟩)) ∧ Below w.heap.size w w' := by
  have HO := Own.start w
  obtain ⟨k, hk⟩ : ∃ k, n % 4 = k := ⟨_, rfl⟩
  obtain ⟨l, hl⟩ : ∃ l, n / 4 % 8 = l := ⟨_, rfl⟩
  have e1 : (n : Int).tmod 4 = (k : Int) := by rw [Int.tmod_eq_emod_of_nonneg (by omega)]; omega
  have e2 : (n : Int).tdiv 4 = ((n / 4 : Nat) : Int) := by rw [Int.tdiv_eq_ediv_of_nonneg (by omega)]; omega
  have e3 : ((n / 4 : Nat) : Int).tmod 8 = (l : Int) := by rw [Int.tmod_eq_emod_of_nonneg (by omega)]; omega
  have e4 : IntKind.u8.wrap ((n / 4 : Nat) : Int) = ((n / 4 : Nat) : Int) := by simp [IntKind.wrap, IntKind.bits, IntKind.signed]; omega
  have hk4 : k = 0 ∨ k = 1 ∨ k = 2 ∨ k = 3 := by omega
  have hl8 : l = 0 ∨ l = 1 ∨ l = 2 ∨ l = 3 ∨ l = 4 ∨ l = 5 ∨ l = 6 ∨ l = 7 := by omega
  generalize n / 4 = m at *
  clear hk hl hn
  go_enter Tryz.func13, Tryz.ntmps13
  rcases hk4 with rfl | rfl | rfl | rfl
  all_goals
    rcases hl8 with rfl | rfl | rfl | rfl | rfl | rfl | rfl | rfl
    all_goals
      go_wp2_with (first | go_big_skip | ((with_reducible apply wpList_indexOne (i := 0)); exact rfl; exact rfl; exact rfl; exact Tryz.underlying135; exact (by decide); infer_instance; exact rfl; exact rfl; (simp only [Act.put, zA, zB, zC])) | ((with_reducible apply wpList_indexOne (i := 1)); exact rfl; exact rfl; exact rfl; exact Tryz.underlying135; exact (by decide); infer_instance; exact rfl; exact rfl; (simp only [Act.put, zA, zB, zC])) | ((with_reducible apply wpList_indexOne (i := 2)); exact rfl; exact rfl; exact rfl; exact Tryz.underlying135; exact (by decide); infer_instance; exact rfl; exact rfl; (simp only [Act.put, zA, zB, zC])) | ((with_reducible apply wpList_indexOne (i := 3)); exact rfl; exact rfl; exact rfl; exact Tryz.underlying135; exact (by decide); infer_instance; exact rfl; exact rfl; (simp only [Act.put, zA, zB, zC])) | ((with_reducible apply wpList_indexOne (i := 0)); exact rfl; exact rfl; exact rfl; exact Tryz.underlying136; exact (by decide); infer_instance; exact rfl; exact rfl; (simp only [Act.put, zA, zB, zC])) | ((with_reducible apply wpList_indexOne (i := 1)); exact rfl; exact rfl; exact rfl; exact Tryz.underlying136; exact (by decide); infer_instance; exact rfl; exact rfl; (simp only [Act.put, zA, zB, zC])) | ((with_reducible apply wpList_indexOne (i := 2)); exact rfl; exact rfl; exact rfl; exact Tryz.underlying136; exact (by decide); infer_instance; exact rfl; exact rfl; (simp only [Act.put, zA, zB, zC])) | ((with_reducible apply wpList_indexOne (i := 3)); exact rfl; exact rfl; exact rfl; exact Tryz.underlying136; exact (by decide); infer_instance; exact rfl; exact rfl; (simp only [Act.put, zA, zB, zC])) | ((with_reducible apply wpList_indexOne (i := 4)); exact rfl; exact rfl; exact rfl; exact Tryz.underlying136; exact (by decide); infer_instance; exact rfl; exact rfl; (simp only [Act.put, zA, zB, zC])) | ((with_reducible apply wpList_indexOne (i := 5)); exact rfl; exact rfl; exact rfl; exact Tryz.underlying136; exact (by decide); infer_instance; exact rfl; exact rfl; (simp only [Act.put, zA, zB, zC])) | ((with_reducible apply wpList_indexOne (i := 6)); exact rfl; exact rfl; exact rfl; exact Tryz.underlying136; exact (by decide); infer_instance; exact rfl; exact rfl; (simp only [Act.put, zA, zB, zC])) | ((with_reducible apply wpList_indexOne (i := 7)); exact rfl; exact rfl; exact rfl; exact Tryz.underlying136; exact (by decide); infer_instance; exact rfl; exact rfl; (simp only [Act.put, zA, zB, zC])))
      go_ret
      exact ⟨⟨_, by decide, rfl⟩, HO.grown⟩

set_option maxHeartbeats 8000000 in
set_option maxRecDepth 100000 in
theorem ints34_any {w : World} {v u : Value} {l : List Nat} (h1 : IsL w 1 v (l.map intC)) (h2 : IsL w 1 u (l.map intC)) : Calls Tryz.prog 20 #[v, u] w fun e w' => e = .returned (.bool true) ∧ Below w.heap.size w w' := by
  have HO := Own.start w
  obtain ⟨p1, c1, rfl, m1⟩ := h1.slice
  obtain ⟨p2, c2, rfl, m2⟩ := h2.slice
  rw [List.length_map] at h1 h2 m1 m2
  simp only [List.length_map]
  have HX := Lib.hid h1
  have HY := Lib.hid h2
  have hmx : (l.length : Int) ≤ 9223372036854775807 := by unfold maxLen at m1; omega
  clear h1 h2
  go_enter Tryz.func20, Tryz.ntmps20
  go_wp2_with (first | go_big_skip)
  go_loopw [5] (fun iv wr => ∃ j : Nat, j ≤ l.length ∧ iv = .int .i64 (j : Int) ∧ Own w wr []) (fun iv _ => l.length - (intOf iv).toNat)
  case atStart => exact ⟨0, by omega, rfl, HO⟩
  case round =>
    clear HO
    obtain ⟨j, hj, rfl, HO⟩ := hrel
    by_cases hjl : j < l.length
    · have hjI : (j : Int) < (l.length : Int) := by omega
      obtain ⟨b1, rfl, s1⟩ := oldAt HX.out rfl hjl
      obtain ⟨b2, rfl, s2⟩ := oldAt HY.out rfl hjl
      have q1 := Lib.hid (fun w' (h : Own w w' []) => s1 w' h.grown 0 _ rfl)
      have q2 := Lib.hid (fun w' (h : Own w w' []) => s2 w' h.grown 0 _ rfl)
      simp only [Nat.mul_one, add0] at q1 q2
      clear s1 s2
      generalize l[j] = x at *
      go_upto_region 6 with fail
      refine region_own HO (by kernel_rfl) (by kernel_rfl) ?_
      clear HO
      intro F HF
      repeat (first | (first | ((with_reducible apply wpQuiet_loadAt1 HF); exact rfl; exact rfl; exact (q1.out); infer_instance; exact rfl; (simp only [Act.put, zA, zB, zC])) | ((with_reducible apply wpQuiet_loadAt1 HF); exact rfl; exact rfl; exact (q2.out); infer_instance; exact rfl; (simp only [Act.put, zA, zB, zC]))) | go_big_quiet_step (fail))
      refine wpQuiet_nil ?_
      intro x
      have HO := HF.own x
      clear HF
      generalize F x = w at *
      clear x F
      go_wp2_with fail
      go_roundw
      case rel => exact ⟨j + 1, by omega, by go_num, HO⟩
      case measure => simp [intOf] <;> omega
    · obtain rfl : j = l.length := by omega
      go_wp2_with fail
      go_ret
      exact ⟨rfl, HO.grown⟩
end Go.Proofs.YtibabfedpdoofaaGreatDoor
namespace Go.Proofs.YtibabfedpdoofaaGreatDoor
open Go.RowKit Go.Own Go.Maps

def failE (id : Int) (o : OrdS) : List EntI := [⟨⟨1, id, o.ref, o.sku, o.qty, o.amt, 0, 0, 0, 0, 0, []⟩, .slice none 0 0⟩, ⟨⟨3, 0, [], [], 0, 0, id, 0, 2, 0, 0, []⟩, .slice none 0 0⟩]

theorem entC_len (l : List EntI) : ∀ x ∈ l.map entC, x.length = 12 := fun x hx => by
  obtain ⟨y, _, rfl⟩ := List.mem_map.1 hx
  rfl
set_option maxHeartbeats 8000000 in
set_option maxRecDepth 100000 in
theorem fails_any (id : Int) (o : OrdS) (W : World) : Calls Tryz.prog 65 #[.int .i64 id, ordV o] W fun e w' => ∃ b, e = .returned (.slice (some ⟨b, 0, none⟩) 2 2) ∧ Own W w' [row 34 12 (.slice (some ⟨b, 0, none⟩) 2 2) ((failE id o).map entC)] := by
  have HO := Own.start W
  unfold ordV
  go_enter Tryz.func65, Tryz.ntmps65
  go_wp2_with (first | (first | go_big_skip | ((with_reducible apply wpList_loadAll HO); exact rfl; exact rfl; (repeat (with_reducible (first | exact At.head _ | apply At.tail))); infer_instance; exact rfl; exact rfl; (simp only [Act.put, zA, zB, zC])) | ((with_reducible apply wpList_loadOne HO); exact rfl; exact rfl; (repeat (with_reducible (first | exact At.head _ | apply At.tail))); exact rfl; infer_instance; exact rfl; (simp only [Act.put, zA, zB, zC]))) | ((with_reducible apply wpList_storeOne HO); exact rfl; exact rfl; (first | (simp [Act.eval]; rfl) | exact rfl); exact rfl; (repeat (with_reducible (first | exact At.head _ | apply At.tail))); infer_instance; exact (by simp); (simp only [List.set_cons_zero]; rfl); exact rfl; clear HO; intro w HO; (simp only [Act.put])) | (first | ((with_reducible apply wpList_boxAgg _ HO rfl); exact rfl; exact rfl; exact rfl; clear HO; intro b3 w HO; (simp only [Act.put, zA, zB, zC])) | ((with_reducible apply wpList_allocAgg _ HO rfl); exact rfl; infer_instance; exact rfl; clear HO; intro b3 w HO; (simp only [Act.put, zA, zB, zC]))) | ((with_reducible apply wpList_litN ([[.int .i64 1, .int .i64 id, .string ⟨o.ref.toArray⟩, .string ⟨o.sku.toArray⟩, .int .i64 o.qty, .int .i64 o.amt, .int .i64 0, .int .i64 0, .int .i64 0, .int .i64 0, .int .i64 0, .slice none 0 0], [.int .i64 3, .int .i64 0, .string ⟨#[]⟩, .string ⟨#[]⟩, .int .i64 0, .int .i64 0, .int .i64 id, .int .i64 0, .int .i64 2, .int .i64 0, .int .i64 0, .slice none 0 0]]) HO); exact rfl; infer_instance; infer_instance; exact rfl; exact rfl; exact rfl; exact rfl; exact rfl; exact rfl; clear HO; intro bl w HO; (simp only [Act.put, zA, zB, zC])))
  go_ret
  refine ⟨bl, rfl, ?_⟩
  exact (HO.litRow (A := (failE id o).map entC) (k := 12) (entC_len _) rfl rfl (show (2 : Nat) ≤ maxLen by unfold maxLen; omega)).sub (.cons_cons _ (.cons _ (List.Sublist.refl _)))

def tdF : D6 := ⟨3, 0, 0, 0, 0, 0, false⟩
def tO1 : OrdS := ⟨1, [97], [120], 1, 5⟩
def tO2 : OrdS := ⟨2, [97, 45, 50], [120], 1, 5⟩
def tO9 : OrdS := ⟨1, [97, 45, 57], [120], 1, 5⟩
def tS1 : CoS := ⟨[(tO1, tdF)], []⟩
def tS2 : CoS := ⟨[(tO1, tdF), (tO2, beginD)], []⟩
def tS3 : CoS := ⟨[(tO1, tdF), (tO2, tdF)], []⟩
def tS9 : CoS := ⟨[(tO9, tdF)], []⟩
theorem t1 : coreOf ((failE 1 ⟨0, [97], [120], 1, 5⟩).map (·.x)) = (tS1, zeroI) := by kernel_rfl
theorem t9 : coreOf ((failE 1 ⟨0, [97, 45, 57], [120], 1, 5⟩).map (·.x)) = (tS9, zeroI) := by kernel_rfl
theorem t2 : applyS tS1 zeroI ⟨1, 2, [97, 45, 50], [120], 1, 5, 0, 0, 0, 0, 0, []⟩ = tS2 := by kernel_rfl
theorem t3 : applyS tS2 zeroI ⟨3, 0, [], [], 0, 0, 2, 0, 2, 0, 0, []⟩ = tS3 := by kernel_rfl
theorem t2e : applyE tS1 zeroI ⟨1, 2, [97, 45, 50], [120], 1, 5, 0, 0, 0, 0, 0, []⟩ = 0 := by kernel_rfl
theorem t3e : applyE tS2 zeroI ⟨3, 0, [], [], 0, 0, 2, 0, 2, 0, 0, []⟩ = 0 := by kernel_rfl
theorem tn1 : nextR tS1.L 1 = (tO2, 0) := by kernel_rfl
theorem tn3 : nextR tS3.L 1 = (zeroO, 62) := by kernel_rfl
theorem tn4 : nextR tS3.L 2 = (⟨3, [97, 45, 51], [120], 1, 5⟩, 0) := by kernel_rfl
theorem tn9 : nextR tS9.L 1 = (zeroO, 3) := by kernel_rfl
theorem tc3 : chainL tS3.L 2 = [1, 2] := by kernel_rfl
theorem coAt_left {W w : World} {L : List Ent} {a : CoA} {S : CoS} {i : InA} {A : InS} (h : Own W w (coPs a S i A ++ L)) : CoAt w a S i A := Own.coAt h (List.mem_append_left _ (.head _)) (List.mem_append_left _ (.tail _ (.head _))) (List.mem_append_left _ (.tail _ (.tail _ (.head _))))
theorem coAt_left' {W w : World} {L : List Ent} {a : CoA} {S : CoS} {i : InA} {A : InS} (h : Own W w L) (hm : ∀ e ∈ coPs a S i A, e ∈ L) : CoAt w a S i A := Own.coAt h (hm _ (.head _)) (hm _ (.tail _ (.head _))) (hm _ (.tail _ (.tail _ (.head _))))
theorem failE_in {W : World} {v : Value} {id : Int} {o : OrdS} (h1 : o.ref.length ≤ 100) (h2 : o.sku.length ≤ 100) (hi : inI id = true) : EntsIn W [row 34 12 v ((failE id o).map entC)] v (failE id o) := by
  refine ⟨fun w' _ hF => isL_of_owns (entC_len _) (hF _ List.mem_cons_self), fun e he => ?_⟩
  have hnil : ∀ w' : World, IsRows w' (.slice none 0 0) [] := fun w' => .none _ _ (fun _ => rfl)
  simp only [failE, List.mem_cons, List.not_mem_nil, or_false] at he
  rcases he with rfl | rfl
  · exact ⟨fun w' _ _ => hnil w', by unfold maxLen; dsimp only; omega, by unfold maxLen; dsimp only; omega, rfl⟩
  · exact ⟨fun w' _ _ => hnil w', by unfold maxLen; dsimp only [List.length_nil]; omega, by unfold maxLen; dsimp only [List.length_nil]; omega, hi⟩

set_option maxHeartbeats 16000000 in
set_option maxRecDepth 100000 in
theorem tried_any (W : World) (hL : LaidE W) : Calls Tryz.prog 12 #[] W fun e w' => e = .returned (.bool true) ∧ Below W.heap.size W w' := by
  have HO := Own.start W
  have F1 := fun w => fails_any 1 ⟨0, [97], [120], 1, 5⟩ w
  have F2 := fun w => fails_any 2 tO2 w
  have F9 := fun w => fails_any 1 ⟨0, [97, 45, 57], [120], 1, 5⟩ w
  simp only [ordV, tO2] at F1 F2 F9
  go_enter Tryz.func12, Tryz.ntmps12
  go_upto_region 2 with (first | go_big_skip | (first | go_big_skip | ((with_reducible apply wpList_loadAll HO); exact rfl; exact rfl; (repeat (with_reducible (first | exact At.head _ | apply At.tail))); infer_instance; exact rfl; exact rfl; (simp only [Act.put, zA, zB, zC])) | ((with_reducible apply wpList_loadOne HO); exact rfl; exact rfl; (repeat (with_reducible (first | exact At.head _ | apply At.tail))); exact rfl; infer_instance; exact rfl; (simp only [Act.put, zA, zB, zC]))) | (go_at_call 65; go_must ((with_reducible refine (F1 _).mono ?_); rintro e w ⟨bl, rfl, HO1⟩; replace HO := HO.lift HO1; clear HO1)) | (go_at_call 14; go_must ((have h9 := cored_any HO (fun e he => List.mem_append_left _ he) (failE_in (W := W) (id := 1) (o := ⟨0, [97], [120], 1, 5⟩) (by decide) (by decide) rfl) hL (by decide)); rw [t1] at h9; (with_reducible refine h9.mono ?_); clear h9 HO; rintro e w ⟨a, i, x, N, rfl, HO, hR⟩)))
  have HO1 : Own W w (coPs a tS1 i zeroI ++ (inPs i zeroI ++ [])) := HO.sub (List.Sublist.append (List.Sublist.refl _) (List.Sublist.append (List.Sublist.refl _) (List.nil_sublist _)))
  clear HO hR
  have r1 : refsOk tS1.L := by unfold refsOk; decide
  have N1 := next_any (coAt_left HO1) (id := 1) (by decide) r1 rfl
  rw [tn1] at N1
  simp only [ordV, tO2] at N1
  have HO := HO1
  clear HO1
  go_upto_region 5 with (first | go_big_skip | ((with_reducible apply wpList_storeAll HO); exact rfl; exact rfl; exact rfl; (repeat (with_reducible (first | exact At.head _ | apply At.tail))); infer_instance; exact rfl; exact rfl; exact rfl; exact rfl; clear HO; intro w HO; (simp only [Act.put])) | (first | ((with_reducible apply wpList_boxAgg _ HO rfl); exact rfl; exact rfl; exact rfl; clear HO; intro b4 w HO; (simp only [Act.put, zA, zB, zC])) | ((with_reducible apply wpList_allocAgg _ HO rfl); exact rfl; infer_instance; exact rfl; clear HO; intro b4 w HO; (simp only [Act.put, zA, zB, zC]))) | (go_at_call 16; go_must ((with_reducible refine N1.mono ?_); clear N1; rintro e w ⟨rfl, hb⟩; replace HO := HO.call hb; clear hb)))
  go_upto_region 8 with (first | go_big_skip | (first | go_big_skip | ((with_reducible apply wpList_loadAll HO); exact rfl; exact rfl; (repeat (with_reducible (first | exact At.head _ | apply At.tail))); infer_instance; exact rfl; exact rfl; (simp only [Act.put, zA, zB, zC])) | ((with_reducible apply wpList_loadOne HO); exact rfl; exact rfl; (repeat (with_reducible (first | exact At.head _ | apply At.tail))); exact rfl; infer_instance; exact rfl; (simp only [Act.put, zA, zB, zC]))) | (go_at_call 65; go_must ((with_reducible refine (F2 _).mono ?_); rintro e w ⟨bm, rfl, HO1⟩; replace HO := HO.lift HO1; clear HO1)))
  have HO2 : Own W w (coPs a tS1 i zeroI ++ (inPs i zeroI ++ [row 34 12 (.slice (some ⟨bm, 0, none⟩) 2 2) ((failE 2 tO2).map entC)])) := by
    have h1 := HO.sub (L' := [row 34 12 (.slice (some ⟨bm, 0, none⟩) 2 2) ((failE 2 tO2).map entC)] ++ (coPs a tS1 i zeroI ++ (inPs i zeroI ++ []))) (.cons_cons _ (.cons _ (List.Sublist.refl _)))
    exact h1.perm (by classical exact List.perm_iff_count.2 (fun x9 => by simp only [ List.count_append, List.count_cons, List.count_nil, Nat.add_zero, Nat.zero_add]; ac_rfl))
  clear HO
  have HO := HO2
  clear HO2
  have hnil : ∀ w' : World, IsRows w' (.slice none 0 0) [] := fun w' => .none _ _ (fun _ => rfl)
  have RW := Lib.hid (fun (w' : World) (L : List Ent) (h : Own W w' L) (hm : row 34 12 (.slice (some ⟨bm, 0, none⟩) 2 2) ((failE 2 tO2).map entC) ∈ L) (j : Nat) (hj : j < 2) => isL_cell' (isL_of_owns (entC_len _) (h.has _ hm)) (j := j) hj)
  have RW0 := Lib.hid (fun (w' : World) (L : List Ent) (h : Own W w' L) (hm : row 34 12 (.slice (some ⟨bm, 0, none⟩) 2 2) ((failE 2 tO2).map entC) ∈ L) => show ∀ i u, [Value.int .i64 1, .int .i64 2, .string ⟨#[97, 45, 50]⟩, .string ⟨#[120]⟩, .int .i64 1, .int .i64 5, .int .i64 0, .int .i64 0, .int .i64 0, .int .i64 0, .int .i64 0, .slice none 0 0][i]? = some u → w'.cell? ((⟨bm, 0, none⟩ : Addr).add i) = some u from fun i u hu => by
    have h9 := RW.out w' L h hm 0 (by decide) i u hu
    rwa [add0'] at h9)
  have RW1 := Lib.hid (fun (w' : World) (L : List Ent) (h : Own W w' L) (hm : row 34 12 (.slice (some ⟨bm, 0, none⟩) 2 2) ((failE 2 tO2).map entC) ∈ L) => show ∀ i u, [Value.int .i64 3, .int .i64 0, .string ⟨#[]⟩, .string ⟨#[]⟩, .int .i64 0, .int .i64 0, .int .i64 2, .int .i64 0, .int .i64 2, .int .i64 0, .int .i64 0, .slice none 0 0][i]? = some u → w'.cell? ((⟨bm, 12, none⟩ : Addr).add i) = some u from fun i u hu => RW.out w' L h hm 1 (by decide) i u hu)
  have AP1 := coApply_any (v := .slice none 0 0) ⟨1, 2, [97, 45, 50], [120], 1, 5, 0, 0, 0, 0, 0, []⟩ HO ⟨.old (hnil W) _, by unfold maxLen; decide, by unfold maxLen; decide, rfl⟩ zeroI_ok (S := tS1) ⟨by decide, by intro x hx; simp only [tS1, List.mem_singleton] at hx; subst hx; kernel_rfl, .nil⟩ (by decide) hL
  rw [t2, t2e] at AP1
  have hz1 : applyI zeroI ⟨1, 2, [97, 45, 50], [120], 1, 5, 0, 0, 0, 0, 0, []⟩ = zeroI := rfl
  have hz2 : applyI zeroI ⟨3, 0, [], [], 0, 0, 2, 0, 2, 0, 0, []⟩ = zeroI := rfl
  rw [hz1] at AP1
  have AP2 := Lib.hid (fun (w : World) (u1 v1 : Value) (i1 : InA) (h : Own W w (coPs ⟨a.c, v1, a.k, u1, a.pm, a.bm⟩ tS2 i1 zeroI ++ (inPs i1 zeroI ++ [row 34 12 (.slice (some ⟨bm, 0, none⟩) 2 2) ((failE 2 tO2).map entC)]))) => coApply_any (v := .slice none 0 0) ⟨3, 0, [], [], 0, 0, 2, 0, 2, 0, 0, []⟩ h ⟨.old (hnil W) _, by unfold maxLen; decide, by unfold maxLen; decide, rfl⟩ zeroI_ok (S := tS2) ⟨by decide, by intro x hx; simp only [tS2, List.mem_cons, List.not_mem_nil, or_false] at hx; rcases hx with rfl | rfl <;> kernel_rfl, .nil⟩ (by decide) hL)
  rw [t3, t3e, hz2] at AP2
  go_upto_region 10 with (first | go_big_skip | (first | go_big_skip | ((with_reducible apply wpList_loadAll HO); exact rfl; exact rfl; (repeat (with_reducible (first | exact At.head _ | apply At.tail))); infer_instance; exact rfl; exact rfl; (simp only [Act.put, zA, zB, zC])) | ((with_reducible apply wpList_loadOne HO); exact rfl; exact rfl; (repeat (with_reducible (first | exact At.head _ | apply At.tail))); exact rfl; infer_instance; exact rfl; (simp only [Act.put, zA, zB, zC]))) | ((with_reducible apply wpList_loadAt HO); exact rfl; exact rfl; exact (fun w' h1 => RW0.out w' _ h1 (by simp)); infer_instance; exact rfl; exact rfl; (simp only [Act.put, zA, zB, zC])) | ((with_reducible apply wpList_loadAt HO); exact rfl; exact rfl; exact (fun w' h1 => RW1.out w' _ h1 (by simp)); infer_instance; exact rfl; exact rfl; (simp only [Act.put, zA, zB, zC])) | (go_at_call 27; first | ((with_reducible refine AP1.mono ?_); clear AP1 HO; rintro e w ⟨rfl, u1, v1, i1, -, HO⟩) | ((have h9 := AP2.out _ _ _ _ HO); (with_reducible refine h9.mono ?_); clear h9 HO; rintro e w ⟨rfl, u2, v2, i2, -, HO⟩)))
  have r3 : refsOk tS3.L := by unfold refsOk; decide
  have N3 := Lib.hid (fun (w : World) (L : List Ent) (h : Own W w L) (hm : ∀ e ∈ coPs ⟨a.c, v2, a.k, u2, a.pm, a.bm⟩ tS3 i2 zeroI, e ∈ L) => tn3 ▸ next_any (coAt_left' h hm) (id := 1) (by decide) r3 rfl)
  have N4 := Lib.hid (fun (w : World) (L : List Ent) (h : Own W w L) (hm : ∀ e ∈ coPs ⟨a.c, v2, a.k, u2, a.pm, a.bm⟩ tS3 i2 zeroI, e ∈ L) => tn4 ▸ next_any (coAt_left' h hm) (id := 2) (by decide) r3 rfl)
  have C4 := Lib.hid (fun (w : World) (L : List Ent) (h : Own W w L) (hm : ∀ e ∈ coPs ⟨a.c, v2, a.k, u2, a.pm, a.bm⟩ tS3 i2 zeroI, e ∈ L) => tc3 ▸ chain_any (coAt_left' h hm) (id := 2) (by decide) r3 rfl)
  simp only [ordV, zeroO] at N3 N4
  have sub1 : ∀ (Z : Ent), ∀ e ∈ coPs ⟨a.c, v2, a.k, u2, a.pm, a.bm⟩ tS3 i2 zeroI, e ∈ Z :: (coPs ⟨a.c, v2, a.k, u2, a.pm, a.bm⟩ tS3 i2 zeroI ++ (inPs i2 zeroI ++ [row 34 12 (.slice (some ⟨bm, 0, none⟩) 2 2) ((failE 2 tO2).map entC)])) := fun Z e he => List.mem_cons_of_mem _ (List.mem_append_left _ he)
  go_upto_region 11 with (first | go_big_skip | (first | go_big_skip | ((with_reducible apply wpList_loadAll HO); exact rfl; exact rfl; (repeat (with_reducible (first | exact At.head _ | apply At.tail))); infer_instance; exact rfl; exact rfl; (simp only [Act.put, zA, zB, zC])) | ((with_reducible apply wpList_loadOne HO); exact rfl; exact rfl; (repeat (with_reducible (first | exact At.head _ | apply At.tail))); exact rfl; infer_instance; exact rfl; (simp only [Act.put, zA, zB, zC]))) | ((with_reducible apply wpList_storeAll HO); exact rfl; exact rfl; exact rfl; (repeat (with_reducible (first | exact At.head _ | apply At.tail))); infer_instance; exact rfl; exact rfl; exact rfl; exact rfl; clear HO; intro w HO; (simp only [Act.put])) | (first | ((with_reducible apply wpList_boxAgg _ HO rfl); exact rfl; exact rfl; exact rfl; clear HO; intro b7 w HO; (simp only [Act.put, zA, zB, zC])) | ((with_reducible apply wpList_allocAgg _ HO rfl); exact rfl; infer_instance; exact rfl; clear HO; intro b7 w HO; (simp only [Act.put, zA, zB, zC]))) | (go_at_call 16; go_must ((with_reducible refine (N3.out _ _ HO (fun e he => List.mem_append_left _ he)).mono ?_); rintro e w ⟨rfl, hb⟩; replace HO := HO.call hb; clear hb)))
  replace HO := HO.tail
  go_upto_region 12 with (first | go_big_skip | (go_at_call 21; go_must ((have h9 := C4.out _ _ HO (fun e he => List.mem_append_left _ he)); (with_reducible refine h9.mono ?_); clear h9; rintro e w ⟨v9, rfl, HO1⟩; replace HO := HO.lift HO1; clear HO1)))
  obtain ⟨q9, c9, rfl⟩ := (HO.rowForm (v := v9) (.head _)).2 (by decide)
  go_upto_region 13 with (first | go_big_skip | (first | go_big_skip | ((with_reducible apply wpList_loadAll HO); exact rfl; exact rfl; (repeat (with_reducible (first | exact At.head _ | apply At.tail))); infer_instance; exact rfl; exact rfl; (simp only [Act.put, zA, zB, zC])) | ((with_reducible apply wpList_loadOne HO); exact rfl; exact rfl; (repeat (with_reducible (first | exact At.head _ | apply At.tail))); exact rfl; infer_instance; exact rfl; (simp only [Act.put, zA, zB, zC]))) | ((with_reducible apply wpList_storeAll HO); exact rfl; exact rfl; exact rfl; (repeat (with_reducible (first | exact At.head _ | apply At.tail))); infer_instance; exact rfl; exact rfl; exact rfl; exact rfl; clear HO; intro w HO; (simp only [Act.put])) | (first | ((with_reducible apply wpList_boxAgg _ HO rfl); exact rfl; exact rfl; exact rfl; clear HO; intro b10 w HO; (simp only [Act.put, zA, zB, zC])) | ((with_reducible apply wpList_allocAgg _ HO rfl); exact rfl; infer_instance; exact rfl; clear HO; intro b10 w HO; (simp only [Act.put, zA, zB, zC]))) | (go_at_call 16; go_must ((with_reducible refine (N4.out _ _ HO (fun e he => List.mem_append_right _ (List.mem_append_left _ he))).mono ?_); rintro e w ⟨rfl, hb⟩; replace HO := HO.call hb; clear hb)))
  go_upto_region 14 with (first | go_big_skip | (first | go_big_skip | ((with_reducible apply wpList_loadAll HO); exact rfl; exact rfl; (repeat (with_reducible (first | exact At.head _ | apply At.tail))); infer_instance; exact rfl; exact rfl; (simp only [Act.put, zA, zB, zC])) | ((with_reducible apply wpList_loadOne HO); exact rfl; exact rfl; (repeat (with_reducible (first | exact At.head _ | apply At.tail))); exact rfl; infer_instance; exact rfl; (simp only [Act.put, zA, zB, zC]))) | (go_at_call 65; go_must ((with_reducible refine (F9 _).mono ?_); rintro e w ⟨bz, rfl, HO1⟩; replace HO := HO.lift HO1; clear HO1)) | (go_at_call 14; go_must ((have h9 := cored_any HO (fun e he => List.mem_append_left _ he) (failE_in (W := W) (id := 1) (o := ⟨0, [97, 45, 57], [120], 1, 5⟩) (by decide) (by decide) rfl) hL (by decide)); rw [t9] at h9; (with_reducible refine h9.mono ?_); clear h9 HO; rintro e w ⟨a9, i9, x9, N9, rfl, HO, -⟩)))
  have m10 : box b10 (.cells #[.int .i64 3, .string ⟨#[97, 45, 51]⟩, .string ⟨#[120]⟩, .int .i64 1, .int .i64 5] 27) ∈ N9 ++ ([row 34 12 (.slice (some ⟨bz, 0, none⟩) 2 2) ((failE 1 ⟨0, [97, 45, 57], [120], 1, 5⟩).map entC)] ++ box b10 (.cells #[.int .i64 3, .string ⟨#[97, 45, 51]⟩, .string ⟨#[120]⟩, .int .i64 1, .int .i64 5] 27) :: ([row 3 1 (.slice (some q9) ([1, 2].map intC).length c9) ([1, 2].map intC)] ++ (coPs ⟨a.c, v2, a.k, u2, a.pm, a.bm⟩ tS3 i2 zeroI ++ (inPs i2 zeroI ++ [row 34 12 (.slice (some ⟨bm, 0, none⟩) 2 2) ((failE 2 tO2).map entC)])))) := by simp
  have mch : row 3 1 (.slice (some q9) ([1, 2].map intC).length c9) ([1, 2].map intC) ∈ N9 ++ ([row 34 12 (.slice (some ⟨bz, 0, none⟩) 2 2) ((failE 1 ⟨0, [97, 45, 57], [120], 1, 5⟩).map entC)] ++ box b10 (.cells #[.int .i64 3, .string ⟨#[97, 45, 51]⟩, .string ⟨#[120]⟩, .int .i64 1, .int .i64 5] 27) :: ([row 3 1 (.slice (some q9) ([1, 2].map intC).length c9) ([1, 2].map intC)] ++ (coPs ⟨a.c, v2, a.k, u2, a.pm, a.bm⟩ tS3 i2 zeroI ++ (inPs i2 zeroI ++ [row 34 12 (.slice (some ⟨bm, 0, none⟩) 2 2) ((failE 2 tO2).map entC)])))) := by simp
  generalize N9 ++ _ = M9 at *
  have N9' := next_any (coAt_left HO) (id := 1) (by decide) (by unfold refsOk; decide) rfl
  rw [tn9] at N9'
  simp only [ordV, zeroO] at N9'
  go_upto_region 15 with (first | go_big_skip | ((with_reducible apply wpList_storeAll HO); exact rfl; exact rfl; exact rfl; (repeat (with_reducible (first | exact At.head _ | apply At.tail))); infer_instance; exact rfl; exact rfl; exact rfl; exact rfl; clear HO; intro w HO; (simp only [Act.put])) | (first | ((with_reducible apply wpList_boxAgg _ HO rfl); exact rfl; exact rfl; exact rfl; clear HO; intro b15 w HO; (simp only [Act.put, zA, zB, zC])) | ((with_reducible apply wpList_allocAgg _ HO rfl); exact rfl; infer_instance; exact rfl; clear HO; intro b15 w HO; (simp only [Act.put, zA, zB, zC]))) | (go_at_call 16; go_must ((with_reducible refine N9'.mono ?_); clear N9'; rintro e w ⟨rfl, hb⟩; replace HO := HO.call hb; clear hb)))
  have R10 := Lib.hid (fun (w' : World) (L : List Ent) (h : Own W w' L) (hm : box b10 (.cells #[.int .i64 3, .string ⟨#[97, 45, 51]⟩, .string ⟨#[120]⟩, .int .i64 1, .int .i64 5] 27) ∈ L) => (old_cell (cs := [.int .i64 3, .string ⟨#[97, 45, 51]⟩, .string ⟨#[120]⟩, .int .i64 1, .int .i64 5]) (h.has _ hm) 1 rfl : w'.cell? ⟨b10, 1, none⟩ = some (.string ⟨#[97, 45, 51]⟩)))
  have RC := Lib.hid (fun (w' : World) (L : List Ent) (h : Own W w' L) (hm : row 3 1 (.slice (some q9) ([1, 2].map intC).length c9) ([1, 2].map intC) ∈ L) (j : Nat) (hj : j < 2) => isL_cell' (isL_of_owns (intC_len [1, 2]) (h.has _ hm)) (j := j) hj 0)
  have RC0 := Lib.hid (fun (w' : World) (L : List Ent) (h : Own W w' L) (hm : row 3 1 (.slice (some q9) ([1, 2].map intC).length c9) ([1, 2].map intC) ∈ L) => show w'.cell? q9 = some (.int .i64 1) from by
    have h9 := RC.out w' L h hm 0 (by decide) _ rfl
    rwa [add0', add0] at h9)
  have RC1 := Lib.hid (fun (w' : World) (L : List Ent) (h : Own W w' L) (hm : row 3 1 (.slice (some q9) ([1, 2].map intC).length c9) ([1, 2].map intC) ∈ L) => show w'.cell? (q9.add 1) = some (.int .i64 2) from by
    have h9 := RC.out w' L h hm 1 (by decide) _ rfl
    rwa [Nat.mul_one, add0] at h9)
  have mm : ∀ e ∈ M9, ∀ (Z R : Ent), e ∈ Z :: (coPs a9 tS9 i9 zeroI ++ (inPs i9 zeroI ++ R :: M9)) := fun e he Z R => List.mem_cons_of_mem _ (List.mem_append_right _ (List.mem_append_right _ (List.mem_cons_of_mem _ he)))
  have k10 := Lib.hid (mm _ m10)
  have kch := Lib.hid (mm _ mch)
  clear mm m10 mch RC
  simp only [List.length_map, List.length_cons, List.length_nil] at RC0 RC1 kch
  go_wp2_with (first | go_big_skip | (first | go_big_skip | ((with_reducible apply wpList_loadAll HO); exact rfl; exact rfl; (repeat (with_reducible (first | exact At.head _ | apply At.tail))); infer_instance; exact rfl; exact rfl; (simp only [Act.put, zA, zB, zC])) | ((with_reducible apply wpList_loadOne HO); exact rfl; exact rfl; (repeat (with_reducible (first | exact At.head _ | apply At.tail))); exact rfl; infer_instance; exact rfl; (simp only [Act.put, zA, zB, zC]))) | ((with_reducible apply wpList_loadAt1 HO); exact rfl; exact rfl; exact (fun w' h1 => R10.out w' _ h1 (k10.out _ _)); infer_instance; exact rfl; (simp only [Act.put, zA, zB, zC])) | ((with_reducible apply wpList_loadAt1 HO); exact rfl; exact rfl; exact (fun w' h1 => RC0.out w' _ h1 (kch.out _ _)); infer_instance; exact rfl; (simp only [Act.put, zA, zB, zC])) | ((with_reducible apply wpList_loadAt1 HO); exact rfl; exact rfl; exact (fun w' h1 => RC1.out w' _ h1 (kch.out _ _)); infer_instance; exact rfl; (simp only [Act.put, zA, zB, zC])))
  go_ret
  exact ⟨rfl, HO.grown⟩
end Go.Proofs.YtibabfedpdoofaaGreatDoor
namespace Go.Proofs.YtibabfedpdoofaaGreatDoor
open Go.RowKit Go.Own Go.Maps

def tryC (n : Nat) : List Value := [.int .u8 (n : Int)]
theorem entC_one (l : List EntI) (h : ∀ e ∈ l, ∃ p n c, e.v = .slice p n c) : ∀ u ∈ (l.map entC).flatten, u.oneCell' = true := by
  intro u hu
  obtain ⟨x, hx, hu⟩ := List.mem_flatten.1 hu
  obtain ⟨e, he, rfl⟩ := List.mem_map.1 hx
  obtain ⟨p, n, c, hv⟩ := h e he
  simp only [entC, List.mem_cons, List.not_mem_nil, or_false] at hu
  rcases hu with rfl | rfl | rfl | rfl | rfl | rfl | rfl | rfl | rfl | rfl | rfl | rfl <;> first | rfl | (rw [hv]; rfl)
theorem EntF.nil {W : World} {x : EntS} {v : Value} (h : EntF W [] x v) (G : List Ent) : EntF W G x v := ⟨fun w' hb _ => h.rows w' hb (fun e he => by cases he), h.ref, h.sku, h.o⟩
def reEnt (e : EntI) (s : List UInt8) : EntI := ⟨{ e.x with ref := s }, e.v⟩

set_option maxHeartbeats 32000000 in
set_option maxRecDepth 100000 in
theorem againTell_any {W : World} {v u : Value} {es : List EntI} {ts : List Nat} (h : IsEnts W v es) (ht : IsL W 1 u (ts.map tryC)) (hw : ∀ t ∈ ts, t ≤ 255) {id : Int} (hid : inI id = true) (hL : LaidE W) : Calls Tryz.prog 3 #[v, u, .int .i64 id] W fun e w' => e = .returned (.bool true) ∧ Below W.heap.size W w' := by
  have HO := Own.start W
  have AD := fun (w : World) (hb : Below W.heap.size W w) => tried_any w (hL.below hb)
  have GR := fun (w : World) (hb : Below W.heap.size W w) => great24_any 45 (h.below hb)
  have HE := Lib.hid (h.into [])
  have HU := Lib.hid (fun (w : World) (hb : Below W.heap.size W w) => (h.below hb).l)
  have HT := Lib.hid ht
  have H1 := Lib.hid (entC_one es (fun e he => by obtain ⟨p, c, hv, -⟩ := (h.r e he).1.slice; exact ⟨_, _, _, hv⟩))
  have H2 := Lib.hid (entC_len es)
  obtain ⟨sp, sc, rfl, hmx⟩ := h.l.slice
  obtain ⟨tp, tc, rfl, htx⟩ := ht.slice
  simp only [List.length_map] at hmx HE HU GR htx HT ⊢
  have hmx' : (es.length : Int) ≤ 9223372036854775807 := by unfold maxLen at hmx; omega
  by_cases hg : greatL es 45 = true
  · rw [hg] at GR
    clear HE HT h ht HU H1 H2
    go_enter Tryz.func3, Tryz.ntmps3
    go_wp2_with (first | go_big_skip | (go_at_call 11; go_must ((with_reducible refine (GR _ HO.grown).mono ?_); rintro e w ⟨rfl, hb⟩; replace HO := HO.call hb; clear hb)) | (go_at_call 12; go_must ((with_reducible refine (AD _ HO.grown).mono ?_); rintro e w ⟨rfl, hb⟩; replace HO := HO.call hb; clear hb)))
    go_ret
    exact ⟨rfl, HO.grown⟩
  have hl45 : es.length ≤ 45 := by
    simp only [greatL, Bool.or_eq_true, decide_eq_true_eq, not_or] at hg
    omega
  rw [Bool.not_eq_true] at hg
  rw [hg] at GR
  by_cases ht60 : 60 < ts.length
  · have hd : decide ((60 : Int) < (ts.length : Int)) = true := decide_eq_true (by omega)
    clear HE HT h ht HU H1 H2 ht60
    go_enter Tryz.func3, Tryz.ntmps3
    go_wp2_with (first | go_big_skip | (go_at_call 11; go_must ((with_reducible refine (GR _ HO.grown).mono ?_); rintro e w ⟨rfl, hb⟩; replace HO := HO.call hb; clear hb)) | (go_at_call 12; go_must ((with_reducible refine (AD _ HO.grown).mono ?_); rintro e w ⟨rfl, hb⟩; replace HO := HO.call hb; clear hb)))
    go_ret
    exact ⟨rfl, HO.grown⟩
  have hd : decide ((60 : Int) < (ts.length : Int)) = false := decide_eq_false (by omega)
  have hlm : ([] : List (List Value)).length + (es.map entC).length ≤ 1000000 := by simp; omega
  clear hg h ht
  replace HO := HO.nil 34 12
  go_enter Tryz.func3, Tryz.ntmps3
  go_wp2_with (first | go_big_skip | (go_at_call 11; go_must ((with_reducible refine (GR _ HO.grown).mono ?_); rintro e w ⟨rfl, hb⟩; replace HO := HO.call hb; clear hb)) | (((with_reducible apply wpList_appendAll HO); exact rfl; infer_instance; infer_instance; (first | (simp [Act.eval]; rfl) | exact rfl); exact rfl; exact (HU.out _ HO.grown); exact H2.out; exact H1.out; intro _; (repeat (with_reducible (first | exact At.head _ | apply At.tail))); (first | omega | (simp; omega)); decide; exact rfl; clear HO; intro v2 w HO hv2; (simp only [Act.put, zA, zB, zC])); (obtain ⟨p2, n2, c2, rfl⟩ := hv2)))
  rw [List.nil_append] at HO
  obtain ⟨⟨p7, c7, hv7⟩, -⟩ := HO.rowForm (.head _)
  cases hv7
  rw [List.length_map] at HO ⊢
  clear HU H1 H2 GR hlm
  have HW := Lib.hid hw
  clear hw
  go_loopw [8, 9] (fun kv iv wr => ∃ (j k : Nat) (fs : List EntI), j ≤ es.length ∧ k ≤ ts.length ∧ kv = .int .i64 (k : Int) ∧ iv = .int .i64 (j : Int) ∧ fs.length = es.length ∧ (∀ e ∈ fs, EntF W [] e.x e.v) ∧ Own W wr [row 34 12 (.slice p2 es.length c2) (fs.map entC)]) (fun _ iv _ => es.length - (intOf iv).toNat)
  case atStart => exact ⟨0, 0, es, by omega, by omega, rfl, rfl, rfl, HE.out.r, HO⟩
  case round =>
    clear HO
    obtain ⟨j, k, fs, hj, hk, rfl, rfl, hfl, hfr, HO⟩ := hrel
    by_cases hjl : j < es.length
    · have hjI : (j : Int) < (es.length : Int) := by omega
      have hjf : j < fs.length := by omega
      obtain ⟨q, rfl⟩ : ∃ q, p2 = some q := by
        obtain ⟨q, c', h⟩ := (HO.rowForm (v := .slice p2 es.length c2) (.head _)).2 (by rw [List.length_map]; omega)
        rw [List.length_map, hfl] at h
        cases h
        exact ⟨q, rfl⟩
      have hfr' := Lib.hid hfr
      have hf2 := Lib.hid hfl
      have hef := hfr _ (List.getElem_mem hjf)
      have HG := Lib.hid (show (fs.map entC)[j]? = some (entC fs[j]) from by rw [List.getElem?_map, List.getElem?_eq_getElem hjf]; rfl)
      have RW := Lib.hid (fun (w' : World) (h1 : Own W w' [row 34 12 (.slice (some q) es.length c2) (fs.map entC)]) => show w'.cell? ((q.add (j * 12)).add 0) = some (.int .i64 fs[j].x.k) from isL_cell' (isL_of_owns (entC_len fs) (h1.has _ List.mem_cons_self)) (j := j) (by simpa using hjf) 0 (.int .i64 fs[j].x.k) (by simp [entC]))
      have HSE := Lib.hid (fun s => show (fs.map entC).set j ((entC fs[j]).set 2 (.string ⟨s.toArray⟩)) = (fs.set j (reEnt fs[j] s)).map entC from by rw [List.map_set]; rfl)
      clear hfr hfl
      generalize fs[j] = y at *
      by_cases c1 : y.x.k = 1 ∧ k < ts.length
      · have b1 : (y.x.k == 1) = true := by simpa using c1.1
        have hkI : (k : Int) < (ts.length : Int) := by omega
        have hkd : decide ((k : Int) < (ts.length : Int)) = true := decide_eq_true hkI
        have hkl := c1.2
        obtain ⟨tq, rfl, tcl⟩ := oldAt HT.out rfl hkl
        have TW := Lib.hid (fun w' (h1 : Below W.heap.size W w') => tcl w' h1 0 _ rfl)
        simp only [Nat.mul_one, add0] at TW
        have htn := HW.out _ (List.getElem_mem hkl)
        have RF := fun w => ref34_any htn w
        clear tcl c1
        generalize ts[k] = t at *
        clear hkl htn
        go_wp2_with (first | go_big_skip | ((with_reducible apply wpList_loadAt1 HO); exact rfl; exact rfl; exact (fun w' h1 => RW.out w' h1); infer_instance; exact rfl; (simp only [Act.put, zA, zB, zC])) | ((with_reducible apply wpList_loadAt1 HO); exact rfl; exact rfl; exact (fun w' h1 => TW.out w' (Own.grown h1)); infer_instance; exact rfl; (simp only [Act.put, zA, zB, zC])) | (go_at_call 13; go_must ((with_reducible refine (RF _).mono ?_); rintro e w ⟨⟨s, hs, rfl⟩, hb⟩; replace HO := HO.call hb; clear hb)) | ((with_reducible apply wpList_storeRow1 (q := q) (i := j) (k := 12) (f := 2) (n := es.length) (c := c2) HO); exact rfl; exact rfl; (first | (simp [Act.eval]; rfl) | exact rfl); exact rfl; exact HG.out; decide; (repeat (with_reducible (first | exact At.head _ | apply At.tail))); exact entC_len _; infer_instance; exact rfl; clear HO; intro w HO; (simp only [Act.put])))
        rw [HSE.out] at HO
        go_roundw
        case rel =>
          refine ⟨j + 1, k + 1, fs.set j (reEnt y s), by omega, by omega, by go_num, by go_num, by rw [List.length_set]; exact hf2.out, fun e he => ?_, HO⟩
          rcases List.mem_or_eq_of_mem_set he with he | rfl
          · exact hfr'.out e he
          · exact ⟨hef.rows, by unfold maxLen; simp only [reEnt]; omega, hef.sku, hef.o⟩
        case measure => simp [intOf] <;> omega
      · have hcd : (y.x.k == 1) = false ∨ (y.x.k == 1) = true ∧ ¬ ((k : Int) < (ts.length : Int)) := by
          by_cases c2 : y.x.k = 1
          · exact .inr ⟨by simpa using c2, (by have : ¬ k < ts.length := fun h => c1 ⟨c2, h⟩; omega)⟩
          · exact .inl (by simpa using c2)
        clear c1 HSE
        rcases hcd with b1 | ⟨b1, b2⟩
        all_goals
          go_wp2_with (first | go_big_skip | ((with_reducible apply wpList_loadAt1 HO); exact rfl; exact rfl; exact (fun w' h1 => RW.out w' h1); infer_instance; exact rfl; (simp only [Act.put, zA, zB, zC])))
          go_roundw
          case rel => exact ⟨j + 1, k, fs, by omega, hk, rfl, by go_num, hf2.out, hfr'.out, HO⟩
          case measure => simp [intOf] <;> omega
    · obtain rfl : j = es.length := by omega
      have CR := cored_any (G := [row 34 12 (.slice p2 es.length c2) (fs.map entC)]) HO (fun e he => he) (v := .slice p2 es.length c2) (es := fs) ⟨fun w' _ hF => isL_of_owns (entC_len _) (hF _ List.mem_cons_self), fun e he => (hfr e he).nil _⟩ hL (by omega)
      clear HW HT HE hd
      go_upto_region 14 with (first | go_big_skip | (go_at_call 14; go_must ((with_reducible refine CR.mono ?_); clear CR HO; rintro e w ⟨a, i, x, N, rfl, HO, hR⟩)))
      have hC := coAt_left HO
      have hX := hR.full HO (fun e he => List.mem_append_right _ (List.mem_append_right _ (List.mem_cons_of_mem _ he))) (List.mem_append_right _ (List.mem_append_right _ List.mem_cons_self))
      have hgW := HO.grown
      obtain ⟨o1, o2, o3⟩ := coreOf_ok (fs.map (·.x)) (fs.map (·.x)).length (by simp)
      rw [List.take_length] at o1
      clear HO hR hfr o2 o3
      generalize (coreOf (fs.map (·.x))).1 = S at *
      generalize (coreOf (fs.map (·.x))).2 = A at *
      have HO := Own.start w
      obtain ⟨WB, hWB⟩ : ∃ z, z = w := ⟨_, rfl⟩
      subst hWB
      have hl60 := o1.len
      have hord := o1.ord
      have hrf := refsOk_of hord
      have OC := fun w' (hb : Below WB.heap.size WB w') => coOrders_any (hC.below hb)
      have e1 : IntKind.i64.wrap ((S.L.length : Int) + 1) = (S.L.length : Int) + 1 := wrap_in (inI_iff.2 (by omega))
      go_wp2_with fail
      go_loopw [13] (fun nv wr => ∃ n : Int, -1 ≤ n ∧ n ≤ (S.L.length : Int) + 2 ∧ nv = .int .i64 n ∧ Own WB wr []) (fun nv _ => ((S.L.length : Int) + 3 - intOf nv).toNat)
      case atStart => exact ⟨-1, by omega, by omega, rfl, HO⟩
      case round =>
        clear HO
        obtain ⟨n, hn1, hn2, rfl, HO⟩ := hrel
        by_cases hn : n ≤ (S.L.length : Int) + 1
        · have hx : ∃ xv, inI xv = true ∧ ((n = -1 ∧ id = xv) ∨ ((n == -1) = false ∧ n = xv)) := by
            by_cases h : n = -1
            · exact ⟨id, hid, .inl ⟨h, rfl⟩⟩
            · exact ⟨n, inI_iff.2 (by omega), .inr ⟨by simpa using h, rfl⟩⟩
          obtain ⟨xv, hxi, hx⟩ := hx
          have NX := fun w' (hb : Below WB.heap.size WB w') => next_any (hC.below hb) hl60 hrf hxi
          have RN := fun w' (hb : Below WB.heap.size WB w') => rNext_any (hX.below hb) hl60 hrf hxi
          have CH := fun w' (hb : Below WB.heap.size WB w') => chain_any (hC.below hb) hl60 hrf hxi
          have RC := fun w' (hb : Below WB.heap.size WB w') => rChain_any (hX.below hb) hl60 hrf hxi
          have CD := fun w' (hb : Below WB.heap.size WB w') => charged_again (hC.below hb) hl60 hord hxi
          have RD := fun w' (hb : Below WB.heap.size WB w') => rCharged_any (hX.below hb) hl60 hord hxi
          generalize nextR S.L xv = nr at *
          generalize chainL S.L xv = ll at *
          generalize chargedR S.L xv = cr at *
          obtain ⟨⟨q1, q2, q3, q4, q5⟩, er⟩ := nr
          obtain ⟨cs, cb⟩ := cr
          simp only [ordV] at NX RN
          clear hxi hC hX
          rcases hx with ⟨rfl, rfl⟩ | ⟨hb9, rfl⟩
          all_goals
            go_wp2_with (first | go_big_skip | (first | go_big_skip | ((with_reducible apply wpList_loadAll HO); exact rfl; exact rfl; (repeat (with_reducible (first | exact At.head _ | apply At.tail))); infer_instance; exact rfl; exact rfl; (simp only [Act.put, zA, zB, zC])) | ((with_reducible apply wpList_loadOne HO); exact rfl; exact rfl; (repeat (with_reducible (first | exact At.head _ | apply At.tail))); exact rfl; infer_instance; exact rfl; (simp only [Act.put, zA, zB, zC]))) | ((with_reducible apply wpList_storeAll HO); exact rfl; exact rfl; exact rfl; (repeat (with_reducible (first | exact At.head _ | apply At.tail))); infer_instance; exact rfl; exact rfl; exact rfl; exact rfl; clear HO; intro w HO; (simp only [Act.put])) | (first | ((with_reducible apply wpList_boxAgg _ HO rfl); exact rfl; exact rfl; exact rfl; clear HO; intro bb w HO; (simp only [Act.put, zA, zB, zC])) | ((with_reducible apply wpList_allocAgg _ HO rfl); exact rfl; infer_instance; exact rfl; clear HO; intro bb w HO; (simp only [Act.put, zA, zB, zC]))) | (go_at_call 15; go_must ((with_reducible refine (OC _ HO.grown).mono ?_); rintro e w ⟨rfl, hb⟩; replace HO := HO.call hb; clear hb)) | (go_at_call 16; go_must ((with_reducible refine (NX _ HO.grown).mono ?_); rintro e w ⟨rfl, hb⟩; replace HO := HO.call hb; clear hb)) | (go_at_call 17; go_must ((with_reducible refine (RN _ HO.grown).mono ?_); rintro e w ⟨rfl, hb⟩; replace HO := HO.call hb; clear hb)) | (go_at_call 18; go_must ((with_reducible refine (CD _ HO.grown).mono ?_); rintro e w ⟨rfl, hb⟩; replace HO := HO.call hb; clear hb)) | (go_at_call 19; go_must ((with_reducible refine (RD _ HO.grown).mono ?_); rintro e w ⟨rfl, hb⟩; replace HO := HO.call hb; clear hb)) | (go_at_call 21; go_must ((with_reducible refine (CH _ HO.grown).mono ?_); rintro e w ⟨v8, rfl, HO1⟩; replace HO := HO.lift HO1; clear HO1)) | (go_at_call 22; go_must ((with_reducible refine (RC _ HO.grown).mono ?_); rintro e w ⟨v9, rfl, HO1⟩; replace HO := HO.lift HO1; clear HO1)) | (go_at_call 20; go_must ((have h9 := ints34_any (l := ll) (isL_of_owns (intC_len _) (HO.has (row 3 1 v8 (ll.map intC)) (by simp))) (isL_of_owns (intC_len _) (HO.has (row 3 1 v9 (ll.map intC)) (by simp)))); (with_reducible refine h9.mono ?_); clear h9; rintro e w ⟨rfl, hb⟩; replace HO := HO.call hb; clear hb)))
            replace HO := HO.sub (List.nil_sublist _)
            go_roundw
            case rel => first | exact ⟨0, by omega, by omega, by go_num, HO⟩ | exact ⟨n + 1, by omega, by omega, by go_num, HO⟩
            case measure => simp [intOf] <;> omega
        · obtain rfl : n = (S.L.length : Int) + 2 := by omega
          clear hC hX
          go_wp2_with (first | go_big_skip | (go_at_call 15; go_must ((with_reducible refine (OC _ HO.grown).mono ?_); rintro e w ⟨rfl, hb⟩; replace HO := HO.call hb; clear hb)) | (go_at_call 12; go_must ((with_reducible refine (AD _ (hgW.trans (HO.grown.mono hgW.size))).mono ?_); rintro e w ⟨rfl, hb⟩; replace HO := HO.call hb; clear hb)))
          go_ret
          exact ⟨rfl, hgW.trans (HO.grown.mono hgW.size)⟩
end Go.Proofs.YtibabfedpdoofaaGreatDoor
namespace Go.Proofs.YtibabfedpdoofaaGreatDoor
open Go.RowKit Go.Own Go.ChangeShapes Go.WideShapes Go.ChangeAt

theorem cellsU8 : Tryz.prog.cellsOf 5 = 1 := by kernel_rfl
set_option maxRecDepth 100000 in
theorem tries_of {H : Type} {enc : TypeId × Value → H} {W : World} {base : Nat} {spare : Nat → Bool} {held : Bool} {v : Value} {d : DataW H} {p : List MemPlace}
    (h : DataW.Trod enc Tryz.prog W base spare held 23 v d p) (hv : v.cells.toList = [v]) : ∃ ns : List Nat, IsL W 1 v (ns.map tryC) ∧ ∀ n ∈ ns, n ≤ 255 := by
  obtain ⟨fuel, hf⟩ := h
  obtain ⟨u, ns, e, hI, hw⟩ := slice_of tryC (fun n => n ≤ 255) Tryz.underlying23 cellsU8 (by decide) (fun _ => rfl) (fun fuel' cs x hx hl => by
    obtain ⟨n, e, _, hwf⟩ := DataW.trod_int Tryz.underlying5 hx
    simp [Lit.wf, IntKind.min, IntKind.max, IntKind.bits, IntKind.signed] at hwf
    refine ⟨n.toNat, ?_, by omega⟩
    unfold tryC
    rw [Int.toNat_of_nonneg hwf.1]
    match cs, hl with
    | [c], _ => simpa using e) hf
  rw [hv] at e
  obtain rfl : v = u := by simpa using e
  exact ⟨ns, hI, hw⟩
set_option maxRecDepth 100000 in
theorem intIn_of {H : Type} {enc : TypeId × Value → H} {W : World} {b0 base : Nat} {r : Reach} {spare : Nat → Bool} {held : Bool} {v : Value} {d : DataW H} {p : List MemPlace}
    (hv : Value.okWide Tryz.prog W r b0 3 v) (h : DataW.Trod enc Tryz.prog W base spare held 3 v d p) : ∃ n : Int, v = .int .i64 n ∧ inI n = true := by
  obtain ⟨n0, rfl⟩ := okWide_int Tryz.underlying3 hv
  obtain ⟨fuel, hf⟩ := h
  obtain ⟨n, e, _, hwf⟩ := DataW.trod_int Tryz.underlying3 hf
  have e2 : n0 = n := by simpa [Value.cells] using e
  subst e2
  refine ⟨n0, rfl, inI_iff.2 ?_⟩
  simp [Lit.wf, IntKind.min, IntKind.max, IntKind.bits, IntKind.signed] at hwf
  omega
end Go.Proofs.YtibabfedpdoofaaGreatDoor

/-
  The document's aging looks at a core, by walking its text; conditions: int64 numbers, lines of unlike orders. (Printed by wip/mkager.py.)
  The chapter's example of an aging, by walking the law's text; conditions: the laid tables.
  The chapter's example of an aging: the law's own helper, by walking its text; conditions: the laid tables.
  The document's aging: how much is old; whether lines are the same; a copy of the program's; by walking the texts; conditions: int64 numbers.
-/
import Derived.Test.YtibabfedpdoofaaGreatDoorQa1
import Derived.Test.YtibabfedpdoofaaGreatDoorQa10
import Derived.Test.YtibabfedpdoofaaGreatDoorQe1
namespace Go.Proofs.YtibabfedpdoofaaGreatDoor
open Go.RowKit Go.Own Go.Maps

def raPs (r : Nat) (now : Int) (v : Value) (ls : List LineS) : List Ent := [box r (.cells #[.int .i64 now, v] 58), row 178 3 v (ls.map lineC)]
def uniqL (ls : List LineS) : Prop := ls.Pairwise (fun a b => a.o ≠ b.o)
theorem seeL_le (ls : List LineS) (now : Int) (P : List Pst) : ∀ k, ∀ x ∈ seeL ls now P k, x.o ≤ (k : Int)
  | 0, x, hx => by cases hx
  | k + 1, x, hx => by
    unfold seeL at hx
    rcases List.mem_append.1 hx with hx | hx
    · have := seeL_le ls now P k x hx; omega
    · split at hx
      · cases hx
      · obtain rfl := List.mem_singleton.1 hx
        show (k : Int) + 1 ≤ _
        omega
theorem seeL_uniq (ls : List LineS) (now : Int) (P : List Pst) : ∀ k, uniqL (seeL ls now P k)
  | 0 => List.Pairwise.nil
  | k + 1 => by
    unfold seeL
    refine List.pairwise_append.2 ⟨seeL_uniq ls now P k, ?_, fun a ha b hb => ?_⟩
    · split
      · exact List.Pairwise.nil
      · exact List.pairwise_singleton _ _
    · split at hb
      · cases hb
      · obtain rfl := List.mem_singleton.1 hb
        have := seeL_le ls now P k a ha
        show a.o ≠ (k : Int) + 1
        omega
theorem since_step {ls : List LineS} {now : Int} (hu : uniqL ls) {j : Nat} (hj : j < ls.length) (id : Int) : sinceOf (ls.take (j + 1)) now id = if ls[j].o = id then ls[j].s else sinceOf (ls.take j) now id := by
  unfold sinceOf
  rw [List.take_succ_eq_append_getElem hj, List.find?_append]
  by_cases h : ls[j].o = id
  · rw [if_pos h]
    have h1 : (ls.take j).find? (fun x => decide (x.o = id)) = none := by
      rw [List.find?_eq_none]
      intro x hx
      obtain ⟨i, hi, rfl⟩ := List.mem_iff_getElem.1 hx
      have hij : i < j := by simp at hi; omega
      have := List.pairwise_iff_getElem.1 hu i j (by omega) hj hij
      simp only [List.getElem_take, decide_eq_true_eq]
      rw [← h]
      exact this
    rw [h1]
    simp [h]
  · rw [if_neg h]
    have h1 : [ls[j]].find? (fun x => decide (x.o = id)) = none := by simp [h]
    rw [h1, Option.or_none]

set_option maxHeartbeats 32000000 in
set_option maxRecDepth 100000 in
theorem raSee_any {W w : World} {M : List Ent} {r : Nat} {now : Int} {v : Value} {ls : List LineS} {x : RcA} {S : CoS} {A : InS} (t : Int) (HO : Own W w (raPs r now v ls ++ M)) (HC : ∀ (w' : World) (L' : List Ent), Own W w' L' → (∀ e ∈ M, e ∈ L') → RcAt w' x S A) (hs : ∀ p ∈ S.P, smallOk p) (hP : S.P.length ≤ 100000) (hlen : S.L.length ≤ 60) (hu : uniqL ls) :
    Calls Tryz.prog 31 #[.pointer (some ⟨r, 0, none⟩), .int .i64 t, .pointer (some ⟨x.r, 0, none⟩)] w fun e w' => ∃ v', e = .returned (.tuple #[]) ∧ Own W w' (raPs r (seeN now t) v' (seeL ls (seeN now t) S.P S.L.length) ++ M) := by
  have h0 := HC _ _ HO (fun e he => List.mem_append_right _ he)
  obtain ⟨xp, xc, hxv, hxm⟩ := h0.s.l.slice
  rw [List.length_map] at hxv hxm
  have CL := Lib.hid (fun (w : World) (L : List Ent) (h : Own W w L) (hm : ∀ e ∈ M, e ∈ L) => show w.cell? ⟨x.r, 0, none⟩ = some (.slice xp S.L.length xc) from hxv ▸ old_cell (HC w L h hm).box 0 rfl)
  have BC := Lib.hid (fun (w : World) (L : List Ent) (h : Own W w L) (hm : ∀ e ∈ M, e ∈ L) (k : Nat) (_ : k < 60) => rcBal_any (HC w L h hm) hs hP 1 ((k : Int) + 1))
  unfold raPs at HO
  simp only [List.cons_append, List.nil_append] at HO
  obtain ⟨⟨p, c, rfl⟩, -⟩ := HO.rowForm (v := v) (.tail _ _ _ (.head _))
  rw [List.length_map] at HO
  have hmx := (isL_of_owns (lineC_len ls) (HO.has _ (.tail _ (.head _)))).slice
  have hmx' : (ls.length : Int) ≤ 9223372036854775807 := by obtain ⟨_, _, _, h⟩ := hmx; rw [List.length_map] at h; unfold maxLen at h; omega
  have hs40 := show seeN now t = max now (min t 1099511627776) from rfl
  clear HC h0 hxv hs hP hmx
  generalize seeN now t = nw at *
  have HL := Lib.hid (fun k => show seeL ls nw S.P (k + 1) = seeL ls nw S.P k ++ (if bal S.P 1 ((k : Int) + 1) = 0 then [] else [⟨(k : Int) + 1, sinceOf ls nw ((k : Int) + 1), bal S.P 1 ((k : Int) + 1)⟩]) from rfl)
  have hsl := Lib.hid (seeL_len ls nw S.P)
  have HS := Lib.hid (fun (j : Nat) (hj : j < ls.length) (id : Int) => since_step (now := nw) hu hj id)
  clear hu
  unfold raPs
  simp only [List.cons_append, List.nil_append]
  by_cases g1 : 1099511627776 < t
  · by_cases g2 : now < 1099511627776
    · have hX : nw = 1099511627776 := by omega
      clear hs40
      go_enter Tryz.func31, Tryz.ntmps31
      go_wp2_with (first | go_big_skip | (first | go_big_skip | ((with_reducible apply wpList_loadAll HO); exact rfl; exact rfl; (repeat (with_reducible (first | exact At.head _ | apply At.tail))); infer_instance; exact rfl; exact rfl; (simp only [Act.put, zA, zB, zC])) | ((with_reducible apply wpList_loadOne HO); exact rfl; exact rfl; (repeat (with_reducible (first | exact At.head _ | apply At.tail))); exact rfl; infer_instance; exact rfl; (simp only [Act.put, zA, zB, zC]))) | ((with_reducible apply wpList_storeOne HO); exact rfl; exact rfl; (first | (simp [Act.eval]; rfl) | exact rfl); exact rfl; (repeat (with_reducible (first | exact At.head _ | apply At.tail))); infer_instance; exact (by simp); (simp only [List.set_cons_zero]; rfl); exact rfl; clear HO; intro w HO; (simp only [Act.put])))
      rw [← hX] at HO
      replace HO := HO.nil 178 3
      clear hX
      go_loopw [6, 7] (fun vl iv wr => ∃ k : Nat, k ≤ S.L.length ∧ iv = .int .i64 ((k : Int) + 1) ∧ Own W wr (row 178 3 vl ((seeL ls nw S.P k).map lineC) :: box r (.cells #[.int .i64 nw, .slice p ls.length c] 58) :: row 178 3 (.slice p ls.length c) (ls.map lineC) :: M)) (fun _ iv _ => 62 - (intOf iv).toNat)
      case atStart => exact ⟨0, by omega, rfl, HO⟩
      case round =>
        clear HO
        obtain ⟨k, hk, rfl, HO⟩ := hrel
        by_cases hkl : k < S.L.length
        · have hkI : (k : Int) + 1 ≤ (S.L.length : Int) := by omega
          have hk60 : k < 60 := by omega
          have HLk := Lib.hid (HL.out k)
          have hsk := hsl.out k
          have BCk := Lib.hid (fun w L h hm => BC.out w L h hm k hk60)
          have HSk := Lib.hid (fun j hj => HS.out j hj ((k : Int) + 1))
          have hse := Lib.hid (show sinceOf (ls.take ls.length) nw ((k : Int) + 1) = sinceOf ls nw ((k : Int) + 1) by rw [List.take_length])
          have hs0 := Lib.hid (show sinceOf (ls.take 0) nw ((k : Int) + 1) = nw from rfl)
          clear HL hsl BC HS
          generalize hbk : bal S.P 1 ((k : Int) + 1) = bk at *
          generalize hnl : seeL ls nw S.P (k + 1) = nl at *
          generalize seeL ls nw S.P k = ol at *
          replace hbk := Lib.hid hbk
          by_cases hb : bk = 0
          · rw [if_pos hb, List.append_nil] at HLk
            obtain rfl := HLk.out
            go_wp2_with (first | go_big_skip | (first | go_big_skip | ((with_reducible apply wpList_loadAll HO); exact rfl; exact rfl; (repeat (with_reducible (first | exact At.head _ | apply At.tail))); infer_instance; exact rfl; exact rfl; (simp only [Act.put, zA, zB, zC])) | ((with_reducible apply wpList_loadOne HO); exact rfl; exact rfl; (repeat (with_reducible (first | exact At.head _ | apply At.tail))); exact rfl; infer_instance; exact rfl; (simp only [Act.put, zA, zB, zC]))) | ((with_reducible apply wpList_loadAt1 HO); exact rfl; exact rfl; exact (fun w' h1 => CL.out w' _ h1 (by intro e he; repeat (first | exact he | apply List.mem_cons_of_mem))); infer_instance; exact rfl; (simp only [Act.put, zA, zB, zC])) | (go_at_call 95; go_must ((with_reducible refine (BCk.out _ _ HO (by intro e he; repeat (first | exact he | apply List.mem_cons_of_mem))).mono ?_); rintro e w ⟨rfl, hb⟩; replace HO := HO.call hb; clear hb)))
            go_roundw
            case rel => exact ⟨k + 1, by omega, by go_num, by rw [hnl]; exact HO⟩
            case measure => simp [intOf] <;> omega
          · rw [if_neg hb] at HLk
            have hll : (ol.map lineC).length + 1 ≤ 1000000 := by rw [List.length_map]; omega
            go_wp2_with (first | go_big_skip | (first | go_big_skip | ((with_reducible apply wpList_loadAll HO); exact rfl; exact rfl; (repeat (with_reducible (first | exact At.head _ | apply At.tail))); infer_instance; exact rfl; exact rfl; (simp only [Act.put, zA, zB, zC])) | ((with_reducible apply wpList_loadOne HO); exact rfl; exact rfl; (repeat (with_reducible (first | exact At.head _ | apply At.tail))); exact rfl; infer_instance; exact rfl; (simp only [Act.put, zA, zB, zC]))) | ((with_reducible apply wpList_loadAt1 HO); exact rfl; exact rfl; exact (fun w' h1 => CL.out w' _ h1 (by intro e he; repeat (first | exact he | apply List.mem_cons_of_mem))); infer_instance; exact rfl; (simp only [Act.put, zA, zB, zC])) | (go_at_call 95; go_must ((with_reducible refine (BCk.out _ _ HO (by intro e he; repeat (first | exact he | apply List.mem_cons_of_mem))).mono ?_); rintro e w ⟨rfl, hb⟩; replace HO := HO.call hb; clear hb)))
            go_loopw [9, 10] (fun sv iv wr => ∃ i : Nat, i ≤ ls.length ∧ iv = .int .i64 (i : Int) ∧ sv = .int .i64 (sinceOf (ls.take i) nw ((k : Int) + 1)) ∧ Own W wr (row 178 3 u6 (ol.map lineC) :: box r (.cells #[.int .i64 nw, .slice p ls.length c] 58) :: row 178 3 (.slice p ls.length c) (ls.map lineC) :: M)) (fun _ iv _ => ls.length - (intOf iv).toNat)
            case atStart => exact ⟨0, by omega, rfl, by rw [hs0.out], HO⟩
            case round =>
              clear HO
              obtain ⟨i, hi, rfl, rfl, HO⟩ := hrel
              by_cases hil : i < ls.length
              · have hiI : (i : Int) < (ls.length : Int) := by omega
                obtain ⟨q, rfl⟩ : ∃ q, p = some q := by
                  obtain ⟨q, c', h⟩ := (HO.rowForm (v := .slice p ls.length c) (.tail _ _ _ (.tail _ _ _ (.head _)))).2 (by rw [List.length_map]; omega)
                  rw [List.length_map] at h
                  cases h
                  exact ⟨q, rfl⟩
                have RW := fun (w' : World) (h1 : Own W w' (row 178 3 u6 (ol.map lineC) :: box r (.cells #[.int .i64 nw, .slice (some q) ls.length c] 58) :: row 178 3 (.slice (some q) ls.length c) (ls.map lineC) :: M)) => isL_cell (isL_of_owns (lineC_len _) (h1.has (row 178 3 (.slice (some q) ls.length c) (ls.map lineC)) (List.mem_cons_of_mem _ (List.mem_cons_of_mem _ List.mem_cons_self)))) (j := i) (by simpa using hil)
                simp only [List.getElem_map] at RW
                have hst := HSk.out i hil
                generalize ls[i] = y at *
                obtain ⟨yo, ys, ya⟩ := y
                have r0 := Lib.hid (fun w' h1 => add0 (q.add (i * 3)) ▸ RW w' h1 0 _ rfl)
                have r1 := Lib.hid (fun w' h1 => RW w' h1 1 _ rfl)
                simp only at hst
                replace hst := Lib.hid hst
                generalize sinceOf (ls.take i) nw ((k : Int) + 1) = s0 at *
                clear RW
                by_cases hz : yo = (k : Int) + 1
                · rw [if_pos hz] at hst
                  go_wp2_with (first | go_big_skip | (first | go_big_skip | ((with_reducible apply wpList_loadAll HO); exact rfl; exact rfl; (repeat (with_reducible (first | exact At.head _ | apply At.tail))); infer_instance; exact rfl; exact rfl; (simp only [Act.put, zA, zB, zC])) | ((with_reducible apply wpList_loadOne HO); exact rfl; exact rfl; (repeat (with_reducible (first | exact At.head _ | apply At.tail))); exact rfl; infer_instance; exact rfl; (simp only [Act.put, zA, zB, zC]))) | ((with_reducible apply wpList_loadAt1 HO); exact rfl; exact rfl; exact (fun w' h1 => r0.out w' h1); infer_instance; exact rfl; (simp only [Act.put, zA, zB, zC])) | ((with_reducible apply wpList_loadAt1 HO); exact rfl; exact rfl; exact (fun w' h1 => r1.out w' h1); infer_instance; exact rfl; (simp only [Act.put, zA, zB, zC])))
                  go_roundw
                  case rel => exact ⟨i + 1, by omega, by go_num, by rw [hst.out], HO⟩
                  case measure => simp [intOf] <;> omega
                · rw [if_neg hz] at hst
                  go_wp2_with (first | go_big_skip | (first | go_big_skip | ((with_reducible apply wpList_loadAll HO); exact rfl; exact rfl; (repeat (with_reducible (first | exact At.head _ | apply At.tail))); infer_instance; exact rfl; exact rfl; (simp only [Act.put, zA, zB, zC])) | ((with_reducible apply wpList_loadOne HO); exact rfl; exact rfl; (repeat (with_reducible (first | exact At.head _ | apply At.tail))); exact rfl; infer_instance; exact rfl; (simp only [Act.put, zA, zB, zC]))) | ((with_reducible apply wpList_loadAt1 HO); exact rfl; exact rfl; exact (fun w' h1 => r0.out w' h1); infer_instance; exact rfl; (simp only [Act.put, zA, zB, zC])) | ((with_reducible apply wpList_loadAt1 HO); exact rfl; exact rfl; exact (fun w' h1 => r1.out w' h1); infer_instance; exact rfl; (simp only [Act.put, zA, zB, zC])))
                  go_roundw
                  case rel => exact ⟨i + 1, by omega, by go_num, by rw [hst.out], HO⟩
                  case measure => simp [intOf] <;> omega
              · obtain rfl : i = ls.length := by omega
                rw [hse.out]
                generalize sinceOf ls nw ((k : Int) + 1) = sk at *
                obtain rfl := HLk.out
                go_wp2_with (first | go_big_skip | (first | go_big_skip | ((with_reducible apply wpList_loadAll HO); exact rfl; exact rfl; (repeat (with_reducible (first | exact At.head _ | apply At.tail))); infer_instance; exact rfl; exact rfl; (simp only [Act.put, zA, zB, zC])) | ((with_reducible apply wpList_loadOne HO); exact rfl; exact rfl; (repeat (with_reducible (first | exact At.head _ | apply At.tail))); exact rfl; infer_instance; exact rfl; (simp only [Act.put, zA, zB, zC]))) | (first | ((with_reducible apply wpList_lit1 HO); exact rfl; infer_instance; infer_instance; exact rfl; exact rfl; exact (by decide); exact rfl; clear HO; intro bl w HO; (simp only [Act.put, zA, zB, zC])) | ((with_reducible apply wpList_lit1c HO); exact rfl; infer_instance; infer_instance; (first | (simp [Act.eval]; rfl) | exact rfl); exact rfl; exact rfl; clear HO; intro bl w HO; (simp only [Act.put, zA, zB, zC]))) | ((with_reducible apply wpList_push1 HO); exact rfl; infer_instance; infer_instance; (first | (simp [Act.eval]; rfl) | exact rfl); exact rfl; intro _; (repeat (with_reducible (first | exact At.head _ | apply At.tail))); exact rfl; exact rfl; (first | omega | (simp; omega)); decide; exact rfl; clear HO; intro v2 w HO hv2; (simp only [Act.put, zA, zB, zC])))
                go_roundw
                case rel => exact ⟨k + 1, by omega, by go_num, by rw [hnl, List.map_append]; exact HO⟩
                case measure => simp [intOf] <;> omega
        · have hk' : k = S.L.length := by omega
          have hkI : ¬ ((k : Int) + 1 ≤ (S.L.length : Int)) := by omega
          rw [hk'] at HO
          obtain ⟨⟨p9, c9, rfl⟩, -⟩ := HO.rowForm (.head _)
          rw [List.length_map] at HO
          generalize hnl : seeL ls nw S.P S.L.length = nl at *
          go_wp2_with (first | go_big_skip | (first | go_big_skip | ((with_reducible apply wpList_loadAll HO); exact rfl; exact rfl; (repeat (with_reducible (first | exact At.head _ | apply At.tail))); infer_instance; exact rfl; exact rfl; (simp only [Act.put, zA, zB, zC])) | ((with_reducible apply wpList_loadOne HO); exact rfl; exact rfl; (repeat (with_reducible (first | exact At.head _ | apply At.tail))); exact rfl; infer_instance; exact rfl; (simp only [Act.put, zA, zB, zC]))) | ((with_reducible apply wpList_storeOne HO); exact rfl; exact rfl; (first | (simp [Act.eval]; rfl) | exact rfl); exact rfl; (repeat (with_reducible (first | exact At.head _ | apply At.tail))); infer_instance; exact (by simp); (simp only [List.set_cons_succ, List.set_cons_zero]; rfl); exact rfl; clear HO; intro w HO; (simp only [Act.put])) | ((with_reducible apply wpList_loadAt1 HO); exact rfl; exact rfl; exact (fun w' h1 => CL.out w' _ h1 (by intro e he; repeat (first | exact he | apply List.mem_cons_of_mem))); infer_instance; exact rfl; (simp only [Act.put, zA, zB, zC])))
          go_end0
          first | exact ⟨rfl, _, (HO.sub (by exact .cons_cons _ (.cons_cons _ (.cons _ (List.Sublist.refl _))))).perm (List.Perm.swap _ _ _)⟩ | exact ⟨_, rfl, (HO.sub (by exact .cons_cons _ (.cons_cons _ (.cons _ (List.Sublist.refl _))))).perm (List.Perm.swap _ _ _)⟩
    · have hX : nw = now := by omega
      clear hs40
      go_enter Tryz.func31, Tryz.ntmps31
      go_wp2_with (first | go_big_skip | (first | go_big_skip | ((with_reducible apply wpList_loadAll HO); exact rfl; exact rfl; (repeat (with_reducible (first | exact At.head _ | apply At.tail))); infer_instance; exact rfl; exact rfl; (simp only [Act.put, zA, zB, zC])) | ((with_reducible apply wpList_loadOne HO); exact rfl; exact rfl; (repeat (with_reducible (first | exact At.head _ | apply At.tail))); exact rfl; infer_instance; exact rfl; (simp only [Act.put, zA, zB, zC]))) | ((with_reducible apply wpList_storeOne HO); exact rfl; exact rfl; (first | (simp [Act.eval]; rfl) | exact rfl); exact rfl; (repeat (with_reducible (first | exact At.head _ | apply At.tail))); infer_instance; exact (by simp); (simp only [List.set_cons_succ, List.set_cons_zero]; rfl); exact rfl; clear HO; intro w HO; (simp only [Act.put])))
      rw [← hX] at HO
      replace HO := HO.nil 178 3
      clear hX
      go_loopw [6, 7] (fun vl iv wr => ∃ k : Nat, k ≤ S.L.length ∧ iv = .int .i64 ((k : Int) + 1) ∧ Own W wr (row 178 3 vl ((seeL ls nw S.P k).map lineC) :: box r (.cells #[.int .i64 nw, .slice p ls.length c] 58) :: row 178 3 (.slice p ls.length c) (ls.map lineC) :: M)) (fun _ iv _ => 62 - (intOf iv).toNat)
      case atStart => exact ⟨0, by omega, rfl, HO⟩
      case round =>
        clear HO
        obtain ⟨k, hk, rfl, HO⟩ := hrel
        by_cases hkl : k < S.L.length
        · have hkI : (k : Int) + 1 ≤ (S.L.length : Int) := by omega
          have hk60 : k < 60 := by omega
          have HLk := Lib.hid (HL.out k)
          have hsk := hsl.out k
          have BCk := Lib.hid (fun w L h hm => BC.out w L h hm k hk60)
          have HSk := Lib.hid (fun j hj => HS.out j hj ((k : Int) + 1))
          have hse := Lib.hid (show sinceOf (ls.take ls.length) nw ((k : Int) + 1) = sinceOf ls nw ((k : Int) + 1) by rw [List.take_length])
          have hs0 := Lib.hid (show sinceOf (ls.take 0) nw ((k : Int) + 1) = nw from rfl)
          clear HL hsl BC HS
          generalize hbk : bal S.P 1 ((k : Int) + 1) = bk at *
          generalize hnl : seeL ls nw S.P (k + 1) = nl at *
          generalize seeL ls nw S.P k = ol at *
          replace hbk := Lib.hid hbk
          by_cases hb : bk = 0
          · rw [if_pos hb, List.append_nil] at HLk
            obtain rfl := HLk.out
            go_wp2_with (first | go_big_skip | (first | go_big_skip | ((with_reducible apply wpList_loadAll HO); exact rfl; exact rfl; (repeat (with_reducible (first | exact At.head _ | apply At.tail))); infer_instance; exact rfl; exact rfl; (simp only [Act.put, zA, zB, zC])) | ((with_reducible apply wpList_loadOne HO); exact rfl; exact rfl; (repeat (with_reducible (first | exact At.head _ | apply At.tail))); exact rfl; infer_instance; exact rfl; (simp only [Act.put, zA, zB, zC]))) | ((with_reducible apply wpList_loadAt1 HO); exact rfl; exact rfl; exact (fun w' h1 => CL.out w' _ h1 (by intro e he; repeat (first | exact he | apply List.mem_cons_of_mem))); infer_instance; exact rfl; (simp only [Act.put, zA, zB, zC])) | (go_at_call 95; go_must ((with_reducible refine (BCk.out _ _ HO (by intro e he; repeat (first | exact he | apply List.mem_cons_of_mem))).mono ?_); rintro e w ⟨rfl, hb⟩; replace HO := HO.call hb; clear hb)))
            go_roundw
            case rel => exact ⟨k + 1, by omega, by go_num, by rw [hnl]; exact HO⟩
            case measure => simp [intOf] <;> omega
          · rw [if_neg hb] at HLk
            have hll : (ol.map lineC).length + 1 ≤ 1000000 := by rw [List.length_map]; omega
            go_wp2_with (first | go_big_skip | (first | go_big_skip | ((with_reducible apply wpList_loadAll HO); exact rfl; exact rfl; (repeat (with_reducible (first | exact At.head _ | apply At.tail))); infer_instance; exact rfl; exact rfl; (simp only [Act.put, zA, zB, zC])) | ((with_reducible apply wpList_loadOne HO); exact rfl; exact rfl; (repeat (with_reducible (first | exact At.head _ | apply At.tail))); exact rfl; infer_instance; exact rfl; (simp only [Act.put, zA, zB, zC]))) | ((with_reducible apply wpList_loadAt1 HO); exact rfl; exact rfl; exact (fun w' h1 => CL.out w' _ h1 (by intro e he; repeat (first | exact he | apply List.mem_cons_of_mem))); infer_instance; exact rfl; (simp only [Act.put, zA, zB, zC])) | (go_at_call 95; go_must ((with_reducible refine (BCk.out _ _ HO (by intro e he; repeat (first | exact he | apply List.mem_cons_of_mem))).mono ?_); rintro e w ⟨rfl, hb⟩; replace HO := HO.call hb; clear hb)))
            go_loopw [9, 10] (fun sv iv wr => ∃ i : Nat, i ≤ ls.length ∧ iv = .int .i64 (i : Int) ∧ sv = .int .i64 (sinceOf (ls.take i) nw ((k : Int) + 1)) ∧ Own W wr (row 178 3 u6 (ol.map lineC) :: box r (.cells #[.int .i64 nw, .slice p ls.length c] 58) :: row 178 3 (.slice p ls.length c) (ls.map lineC) :: M)) (fun _ iv _ => ls.length - (intOf iv).toNat)
            case atStart => exact ⟨0, by omega, rfl, by rw [hs0.out], HO⟩
            case round =>
              clear HO
              obtain ⟨i, hi, rfl, rfl, HO⟩ := hrel
              by_cases hil : i < ls.length
              · have hiI : (i : Int) < (ls.length : Int) := by omega
                obtain ⟨q, rfl⟩ : ∃ q, p = some q := by
                  obtain ⟨q, c', h⟩ := (HO.rowForm (v := .slice p ls.length c) (.tail _ _ _ (.tail _ _ _ (.head _)))).2 (by rw [List.length_map]; omega)
                  rw [List.length_map] at h
                  cases h
                  exact ⟨q, rfl⟩
                have RW := fun (w' : World) (h1 : Own W w' (row 178 3 u6 (ol.map lineC) :: box r (.cells #[.int .i64 nw, .slice (some q) ls.length c] 58) :: row 178 3 (.slice (some q) ls.length c) (ls.map lineC) :: M)) => isL_cell (isL_of_owns (lineC_len _) (h1.has (row 178 3 (.slice (some q) ls.length c) (ls.map lineC)) (List.mem_cons_of_mem _ (List.mem_cons_of_mem _ List.mem_cons_self)))) (j := i) (by simpa using hil)
                simp only [List.getElem_map] at RW
                have hst := HSk.out i hil
                generalize ls[i] = y at *
                obtain ⟨yo, ys, ya⟩ := y
                have r0 := Lib.hid (fun w' h1 => add0 (q.add (i * 3)) ▸ RW w' h1 0 _ rfl)
                have r1 := Lib.hid (fun w' h1 => RW w' h1 1 _ rfl)
                simp only at hst
                replace hst := Lib.hid hst
                generalize sinceOf (ls.take i) nw ((k : Int) + 1) = s0 at *
                clear RW
                by_cases hz : yo = (k : Int) + 1
                · rw [if_pos hz] at hst
                  go_wp2_with (first | go_big_skip | (first | go_big_skip | ((with_reducible apply wpList_loadAll HO); exact rfl; exact rfl; (repeat (with_reducible (first | exact At.head _ | apply At.tail))); infer_instance; exact rfl; exact rfl; (simp only [Act.put, zA, zB, zC])) | ((with_reducible apply wpList_loadOne HO); exact rfl; exact rfl; (repeat (with_reducible (first | exact At.head _ | apply At.tail))); exact rfl; infer_instance; exact rfl; (simp only [Act.put, zA, zB, zC]))) | ((with_reducible apply wpList_loadAt1 HO); exact rfl; exact rfl; exact (fun w' h1 => r0.out w' h1); infer_instance; exact rfl; (simp only [Act.put, zA, zB, zC])) | ((with_reducible apply wpList_loadAt1 HO); exact rfl; exact rfl; exact (fun w' h1 => r1.out w' h1); infer_instance; exact rfl; (simp only [Act.put, zA, zB, zC])))
                  go_roundw
                  case rel => exact ⟨i + 1, by omega, by go_num, by rw [hst.out], HO⟩
                  case measure => simp [intOf] <;> omega
                · rw [if_neg hz] at hst
                  go_wp2_with (first | go_big_skip | (first | go_big_skip | ((with_reducible apply wpList_loadAll HO); exact rfl; exact rfl; (repeat (with_reducible (first | exact At.head _ | apply At.tail))); infer_instance; exact rfl; exact rfl; (simp only [Act.put, zA, zB, zC])) | ((with_reducible apply wpList_loadOne HO); exact rfl; exact rfl; (repeat (with_reducible (first | exact At.head _ | apply At.tail))); exact rfl; infer_instance; exact rfl; (simp only [Act.put, zA, zB, zC]))) | ((with_reducible apply wpList_loadAt1 HO); exact rfl; exact rfl; exact (fun w' h1 => r0.out w' h1); infer_instance; exact rfl; (simp only [Act.put, zA, zB, zC])) | ((with_reducible apply wpList_loadAt1 HO); exact rfl; exact rfl; exact (fun w' h1 => r1.out w' h1); infer_instance; exact rfl; (simp only [Act.put, zA, zB, zC])))
                  go_roundw
                  case rel => exact ⟨i + 1, by omega, by go_num, by rw [hst.out], HO⟩
                  case measure => simp [intOf] <;> omega
              · obtain rfl : i = ls.length := by omega
                rw [hse.out]
                generalize sinceOf ls nw ((k : Int) + 1) = sk at *
                obtain rfl := HLk.out
                go_wp2_with (first | go_big_skip | (first | go_big_skip | ((with_reducible apply wpList_loadAll HO); exact rfl; exact rfl; (repeat (with_reducible (first | exact At.head _ | apply At.tail))); infer_instance; exact rfl; exact rfl; (simp only [Act.put, zA, zB, zC])) | ((with_reducible apply wpList_loadOne HO); exact rfl; exact rfl; (repeat (with_reducible (first | exact At.head _ | apply At.tail))); exact rfl; infer_instance; exact rfl; (simp only [Act.put, zA, zB, zC]))) | (first | ((with_reducible apply wpList_lit1 HO); exact rfl; infer_instance; infer_instance; exact rfl; exact rfl; exact (by decide); exact rfl; clear HO; intro bl w HO; (simp only [Act.put, zA, zB, zC])) | ((with_reducible apply wpList_lit1c HO); exact rfl; infer_instance; infer_instance; (first | (simp [Act.eval]; rfl) | exact rfl); exact rfl; exact rfl; clear HO; intro bl w HO; (simp only [Act.put, zA, zB, zC]))) | ((with_reducible apply wpList_push1 HO); exact rfl; infer_instance; infer_instance; (first | (simp [Act.eval]; rfl) | exact rfl); exact rfl; intro _; (repeat (with_reducible (first | exact At.head _ | apply At.tail))); exact rfl; exact rfl; (first | omega | (simp; omega)); decide; exact rfl; clear HO; intro v2 w HO hv2; (simp only [Act.put, zA, zB, zC])))
                go_roundw
                case rel => exact ⟨k + 1, by omega, by go_num, by rw [hnl, List.map_append]; exact HO⟩
                case measure => simp [intOf] <;> omega
        · have hk' : k = S.L.length := by omega
          have hkI : ¬ ((k : Int) + 1 ≤ (S.L.length : Int)) := by omega
          rw [hk'] at HO
          obtain ⟨⟨p9, c9, rfl⟩, -⟩ := HO.rowForm (.head _)
          rw [List.length_map] at HO
          generalize hnl : seeL ls nw S.P S.L.length = nl at *
          go_wp2_with (first | go_big_skip | (first | go_big_skip | ((with_reducible apply wpList_loadAll HO); exact rfl; exact rfl; (repeat (with_reducible (first | exact At.head _ | apply At.tail))); infer_instance; exact rfl; exact rfl; (simp only [Act.put, zA, zB, zC])) | ((with_reducible apply wpList_loadOne HO); exact rfl; exact rfl; (repeat (with_reducible (first | exact At.head _ | apply At.tail))); exact rfl; infer_instance; exact rfl; (simp only [Act.put, zA, zB, zC]))) | ((with_reducible apply wpList_storeOne HO); exact rfl; exact rfl; (first | (simp [Act.eval]; rfl) | exact rfl); exact rfl; (repeat (with_reducible (first | exact At.head _ | apply At.tail))); infer_instance; exact (by simp); (simp only [List.set_cons_succ, List.set_cons_zero]; rfl); exact rfl; clear HO; intro w HO; (simp only [Act.put])) | ((with_reducible apply wpList_loadAt1 HO); exact rfl; exact rfl; exact (fun w' h1 => CL.out w' _ h1 (by intro e he; repeat (first | exact he | apply List.mem_cons_of_mem))); infer_instance; exact rfl; (simp only [Act.put, zA, zB, zC])))
          go_end0
          first | exact ⟨rfl, _, (HO.sub (by exact .cons_cons _ (.cons_cons _ (.cons _ (List.Sublist.refl _))))).perm (List.Perm.swap _ _ _)⟩ | exact ⟨_, rfl, (HO.sub (by exact .cons_cons _ (.cons_cons _ (.cons _ (List.Sublist.refl _))))).perm (List.Perm.swap _ _ _)⟩
  · by_cases g2 : now < t
    · have hX : nw = t := by omega
      clear hs40
      go_enter Tryz.func31, Tryz.ntmps31
      go_wp2_with (first | go_big_skip | (first | go_big_skip | ((with_reducible apply wpList_loadAll HO); exact rfl; exact rfl; (repeat (with_reducible (first | exact At.head _ | apply At.tail))); infer_instance; exact rfl; exact rfl; (simp only [Act.put, zA, zB, zC])) | ((with_reducible apply wpList_loadOne HO); exact rfl; exact rfl; (repeat (with_reducible (first | exact At.head _ | apply At.tail))); exact rfl; infer_instance; exact rfl; (simp only [Act.put, zA, zB, zC]))) | ((with_reducible apply wpList_storeOne HO); exact rfl; exact rfl; (first | (simp [Act.eval]; rfl) | exact rfl); exact rfl; (repeat (with_reducible (first | exact At.head _ | apply At.tail))); infer_instance; exact (by simp); (simp only [List.set_cons_zero]; rfl); exact rfl; clear HO; intro w HO; (simp only [Act.put])))
      rw [← hX] at HO
      replace HO := HO.nil 178 3
      clear hX
      go_loopw [6, 7] (fun vl iv wr => ∃ k : Nat, k ≤ S.L.length ∧ iv = .int .i64 ((k : Int) + 1) ∧ Own W wr (row 178 3 vl ((seeL ls nw S.P k).map lineC) :: box r (.cells #[.int .i64 nw, .slice p ls.length c] 58) :: row 178 3 (.slice p ls.length c) (ls.map lineC) :: M)) (fun _ iv _ => 62 - (intOf iv).toNat)
      case atStart => exact ⟨0, by omega, rfl, HO⟩
      case round =>
        clear HO
        obtain ⟨k, hk, rfl, HO⟩ := hrel
        by_cases hkl : k < S.L.length
        · have hkI : (k : Int) + 1 ≤ (S.L.length : Int) := by omega
          have hk60 : k < 60 := by omega
          have HLk := Lib.hid (HL.out k)
          have hsk := hsl.out k
          have BCk := Lib.hid (fun w L h hm => BC.out w L h hm k hk60)
          have HSk := Lib.hid (fun j hj => HS.out j hj ((k : Int) + 1))
          have hse := Lib.hid (show sinceOf (ls.take ls.length) nw ((k : Int) + 1) = sinceOf ls nw ((k : Int) + 1) by rw [List.take_length])
          have hs0 := Lib.hid (show sinceOf (ls.take 0) nw ((k : Int) + 1) = nw from rfl)
          clear HL hsl BC HS
          generalize hbk : bal S.P 1 ((k : Int) + 1) = bk at *
          generalize hnl : seeL ls nw S.P (k + 1) = nl at *
          generalize seeL ls nw S.P k = ol at *
          replace hbk := Lib.hid hbk
          by_cases hb : bk = 0
          · rw [if_pos hb, List.append_nil] at HLk
            obtain rfl := HLk.out
            go_wp2_with (first | go_big_skip | (first | go_big_skip | ((with_reducible apply wpList_loadAll HO); exact rfl; exact rfl; (repeat (with_reducible (first | exact At.head _ | apply At.tail))); infer_instance; exact rfl; exact rfl; (simp only [Act.put, zA, zB, zC])) | ((with_reducible apply wpList_loadOne HO); exact rfl; exact rfl; (repeat (with_reducible (first | exact At.head _ | apply At.tail))); exact rfl; infer_instance; exact rfl; (simp only [Act.put, zA, zB, zC]))) | ((with_reducible apply wpList_loadAt1 HO); exact rfl; exact rfl; exact (fun w' h1 => CL.out w' _ h1 (by intro e he; repeat (first | exact he | apply List.mem_cons_of_mem))); infer_instance; exact rfl; (simp only [Act.put, zA, zB, zC])) | (go_at_call 95; go_must ((with_reducible refine (BCk.out _ _ HO (by intro e he; repeat (first | exact he | apply List.mem_cons_of_mem))).mono ?_); rintro e w ⟨rfl, hb⟩; replace HO := HO.call hb; clear hb)))
            go_roundw
            case rel => exact ⟨k + 1, by omega, by go_num, by rw [hnl]; exact HO⟩
            case measure => simp [intOf] <;> omega
          · rw [if_neg hb] at HLk
            have hll : (ol.map lineC).length + 1 ≤ 1000000 := by rw [List.length_map]; omega
            go_wp2_with (first | go_big_skip | (first | go_big_skip | ((with_reducible apply wpList_loadAll HO); exact rfl; exact rfl; (repeat (with_reducible (first | exact At.head _ | apply At.tail))); infer_instance; exact rfl; exact rfl; (simp only [Act.put, zA, zB, zC])) | ((with_reducible apply wpList_loadOne HO); exact rfl; exact rfl; (repeat (with_reducible (first | exact At.head _ | apply At.tail))); exact rfl; infer_instance; exact rfl; (simp only [Act.put, zA, zB, zC]))) | ((with_reducible apply wpList_loadAt1 HO); exact rfl; exact rfl; exact (fun w' h1 => CL.out w' _ h1 (by intro e he; repeat (first | exact he | apply List.mem_cons_of_mem))); infer_instance; exact rfl; (simp only [Act.put, zA, zB, zC])) | (go_at_call 95; go_must ((with_reducible refine (BCk.out _ _ HO (by intro e he; repeat (first | exact he | apply List.mem_cons_of_mem))).mono ?_); rintro e w ⟨rfl, hb⟩; replace HO := HO.call hb; clear hb)))
            go_loopw [9, 10] (fun sv iv wr => ∃ i : Nat, i ≤ ls.length ∧ iv = .int .i64 (i : Int) ∧ sv = .int .i64 (sinceOf (ls.take i) nw ((k : Int) + 1)) ∧ Own W wr (row 178 3 u6 (ol.map lineC) :: box r (.cells #[.int .i64 nw, .slice p ls.length c] 58) :: row 178 3 (.slice p ls.length c) (ls.map lineC) :: M)) (fun _ iv _ => ls.length - (intOf iv).toNat)
            case atStart => exact ⟨0, by omega, rfl, by rw [hs0.out], HO⟩
            case round =>
              clear HO
              obtain ⟨i, hi, rfl, rfl, HO⟩ := hrel
              by_cases hil : i < ls.length
              · have hiI : (i : Int) < (ls.length : Int) := by omega
                obtain ⟨q, rfl⟩ : ∃ q, p = some q := by
                  obtain ⟨q, c', h⟩ := (HO.rowForm (v := .slice p ls.length c) (.tail _ _ _ (.tail _ _ _ (.head _)))).2 (by rw [List.length_map]; omega)
                  rw [List.length_map] at h
                  cases h
                  exact ⟨q, rfl⟩
                have RW := fun (w' : World) (h1 : Own W w' (row 178 3 u6 (ol.map lineC) :: box r (.cells #[.int .i64 nw, .slice (some q) ls.length c] 58) :: row 178 3 (.slice (some q) ls.length c) (ls.map lineC) :: M)) => isL_cell (isL_of_owns (lineC_len _) (h1.has (row 178 3 (.slice (some q) ls.length c) (ls.map lineC)) (List.mem_cons_of_mem _ (List.mem_cons_of_mem _ List.mem_cons_self)))) (j := i) (by simpa using hil)
                simp only [List.getElem_map] at RW
                have hst := HSk.out i hil
                generalize ls[i] = y at *
                obtain ⟨yo, ys, ya⟩ := y
                have r0 := Lib.hid (fun w' h1 => add0 (q.add (i * 3)) ▸ RW w' h1 0 _ rfl)
                have r1 := Lib.hid (fun w' h1 => RW w' h1 1 _ rfl)
                simp only at hst
                replace hst := Lib.hid hst
                generalize sinceOf (ls.take i) nw ((k : Int) + 1) = s0 at *
                clear RW
                by_cases hz : yo = (k : Int) + 1
                · rw [if_pos hz] at hst
                  go_wp2_with (first | go_big_skip | (first | go_big_skip | ((with_reducible apply wpList_loadAll HO); exact rfl; exact rfl; (repeat (with_reducible (first | exact At.head _ | apply At.tail))); infer_instance; exact rfl; exact rfl; (simp only [Act.put, zA, zB, zC])) | ((with_reducible apply wpList_loadOne HO); exact rfl; exact rfl; (repeat (with_reducible (first | exact At.head _ | apply At.tail))); exact rfl; infer_instance; exact rfl; (simp only [Act.put, zA, zB, zC]))) | ((with_reducible apply wpList_loadAt1 HO); exact rfl; exact rfl; exact (fun w' h1 => r0.out w' h1); infer_instance; exact rfl; (simp only [Act.put, zA, zB, zC])) | ((with_reducible apply wpList_loadAt1 HO); exact rfl; exact rfl; exact (fun w' h1 => r1.out w' h1); infer_instance; exact rfl; (simp only [Act.put, zA, zB, zC])))
                  go_roundw
                  case rel => exact ⟨i + 1, by omega, by go_num, by rw [hst.out], HO⟩
                  case measure => simp [intOf] <;> omega
                · rw [if_neg hz] at hst
                  go_wp2_with (first | go_big_skip | (first | go_big_skip | ((with_reducible apply wpList_loadAll HO); exact rfl; exact rfl; (repeat (with_reducible (first | exact At.head _ | apply At.tail))); infer_instance; exact rfl; exact rfl; (simp only [Act.put, zA, zB, zC])) | ((with_reducible apply wpList_loadOne HO); exact rfl; exact rfl; (repeat (with_reducible (first | exact At.head _ | apply At.tail))); exact rfl; infer_instance; exact rfl; (simp only [Act.put, zA, zB, zC]))) | ((with_reducible apply wpList_loadAt1 HO); exact rfl; exact rfl; exact (fun w' h1 => r0.out w' h1); infer_instance; exact rfl; (simp only [Act.put, zA, zB, zC])) | ((with_reducible apply wpList_loadAt1 HO); exact rfl; exact rfl; exact (fun w' h1 => r1.out w' h1); infer_instance; exact rfl; (simp only [Act.put, zA, zB, zC])))
                  go_roundw
                  case rel => exact ⟨i + 1, by omega, by go_num, by rw [hst.out], HO⟩
                  case measure => simp [intOf] <;> omega
              · obtain rfl : i = ls.length := by omega
                rw [hse.out]
                generalize sinceOf ls nw ((k : Int) + 1) = sk at *
                obtain rfl := HLk.out
                go_wp2_with (first | go_big_skip | (first | go_big_skip | ((with_reducible apply wpList_loadAll HO); exact rfl; exact rfl; (repeat (with_reducible (first | exact At.head _ | apply At.tail))); infer_instance; exact rfl; exact rfl; (simp only [Act.put, zA, zB, zC])) | ((with_reducible apply wpList_loadOne HO); exact rfl; exact rfl; (repeat (with_reducible (first | exact At.head _ | apply At.tail))); exact rfl; infer_instance; exact rfl; (simp only [Act.put, zA, zB, zC]))) | (first | ((with_reducible apply wpList_lit1 HO); exact rfl; infer_instance; infer_instance; exact rfl; exact rfl; exact (by decide); exact rfl; clear HO; intro bl w HO; (simp only [Act.put, zA, zB, zC])) | ((with_reducible apply wpList_lit1c HO); exact rfl; infer_instance; infer_instance; (first | (simp [Act.eval]; rfl) | exact rfl); exact rfl; exact rfl; clear HO; intro bl w HO; (simp only [Act.put, zA, zB, zC]))) | ((with_reducible apply wpList_push1 HO); exact rfl; infer_instance; infer_instance; (first | (simp [Act.eval]; rfl) | exact rfl); exact rfl; intro _; (repeat (with_reducible (first | exact At.head _ | apply At.tail))); exact rfl; exact rfl; (first | omega | (simp; omega)); decide; exact rfl; clear HO; intro v2 w HO hv2; (simp only [Act.put, zA, zB, zC])))
                go_roundw
                case rel => exact ⟨k + 1, by omega, by go_num, by rw [hnl, List.map_append]; exact HO⟩
                case measure => simp [intOf] <;> omega
        · have hk' : k = S.L.length := by omega
          have hkI : ¬ ((k : Int) + 1 ≤ (S.L.length : Int)) := by omega
          rw [hk'] at HO
          obtain ⟨⟨p9, c9, rfl⟩, -⟩ := HO.rowForm (.head _)
          rw [List.length_map] at HO
          generalize hnl : seeL ls nw S.P S.L.length = nl at *
          go_wp2_with (first | go_big_skip | (first | go_big_skip | ((with_reducible apply wpList_loadAll HO); exact rfl; exact rfl; (repeat (with_reducible (first | exact At.head _ | apply At.tail))); infer_instance; exact rfl; exact rfl; (simp only [Act.put, zA, zB, zC])) | ((with_reducible apply wpList_loadOne HO); exact rfl; exact rfl; (repeat (with_reducible (first | exact At.head _ | apply At.tail))); exact rfl; infer_instance; exact rfl; (simp only [Act.put, zA, zB, zC]))) | ((with_reducible apply wpList_storeOne HO); exact rfl; exact rfl; (first | (simp [Act.eval]; rfl) | exact rfl); exact rfl; (repeat (with_reducible (first | exact At.head _ | apply At.tail))); infer_instance; exact (by simp); (simp only [List.set_cons_succ, List.set_cons_zero]; rfl); exact rfl; clear HO; intro w HO; (simp only [Act.put])) | ((with_reducible apply wpList_loadAt1 HO); exact rfl; exact rfl; exact (fun w' h1 => CL.out w' _ h1 (by intro e he; repeat (first | exact he | apply List.mem_cons_of_mem))); infer_instance; exact rfl; (simp only [Act.put, zA, zB, zC])))
          go_end0
          first | exact ⟨rfl, _, (HO.sub (by exact .cons_cons _ (.cons_cons _ (.cons _ (List.Sublist.refl _))))).perm (List.Perm.swap _ _ _)⟩ | exact ⟨_, rfl, (HO.sub (by exact .cons_cons _ (.cons_cons _ (.cons _ (List.Sublist.refl _))))).perm (List.Perm.swap _ _ _)⟩
    · have hX : nw = now := by omega
      clear hs40
      go_enter Tryz.func31, Tryz.ntmps31
      go_wp2_with (first | go_big_skip | (first | go_big_skip | ((with_reducible apply wpList_loadAll HO); exact rfl; exact rfl; (repeat (with_reducible (first | exact At.head _ | apply At.tail))); infer_instance; exact rfl; exact rfl; (simp only [Act.put, zA, zB, zC])) | ((with_reducible apply wpList_loadOne HO); exact rfl; exact rfl; (repeat (with_reducible (first | exact At.head _ | apply At.tail))); exact rfl; infer_instance; exact rfl; (simp only [Act.put, zA, zB, zC]))) | ((with_reducible apply wpList_storeOne HO); exact rfl; exact rfl; (first | (simp [Act.eval]; rfl) | exact rfl); exact rfl; (repeat (with_reducible (first | exact At.head _ | apply At.tail))); infer_instance; exact (by simp); (simp only [List.set_cons_succ, List.set_cons_zero]; rfl); exact rfl; clear HO; intro w HO; (simp only [Act.put])))
      rw [← hX] at HO
      replace HO := HO.nil 178 3
      clear hX
      go_loopw [6, 7] (fun vl iv wr => ∃ k : Nat, k ≤ S.L.length ∧ iv = .int .i64 ((k : Int) + 1) ∧ Own W wr (row 178 3 vl ((seeL ls nw S.P k).map lineC) :: box r (.cells #[.int .i64 nw, .slice p ls.length c] 58) :: row 178 3 (.slice p ls.length c) (ls.map lineC) :: M)) (fun _ iv _ => 62 - (intOf iv).toNat)
      case atStart => exact ⟨0, by omega, rfl, HO⟩
      case round =>
        clear HO
        obtain ⟨k, hk, rfl, HO⟩ := hrel
        by_cases hkl : k < S.L.length
        · have hkI : (k : Int) + 1 ≤ (S.L.length : Int) := by omega
          have hk60 : k < 60 := by omega
          have HLk := Lib.hid (HL.out k)
          have hsk := hsl.out k
          have BCk := Lib.hid (fun w L h hm => BC.out w L h hm k hk60)
          have HSk := Lib.hid (fun j hj => HS.out j hj ((k : Int) + 1))
          have hse := Lib.hid (show sinceOf (ls.take ls.length) nw ((k : Int) + 1) = sinceOf ls nw ((k : Int) + 1) by rw [List.take_length])
          have hs0 := Lib.hid (show sinceOf (ls.take 0) nw ((k : Int) + 1) = nw from rfl)
          clear HL hsl BC HS
          generalize hbk : bal S.P 1 ((k : Int) + 1) = bk at *
          generalize hnl : seeL ls nw S.P (k + 1) = nl at *
          generalize seeL ls nw S.P k = ol at *
          replace hbk := Lib.hid hbk
          by_cases hb : bk = 0
          · rw [if_pos hb, List.append_nil] at HLk
            obtain rfl := HLk.out
            go_wp2_with (first | go_big_skip | (first | go_big_skip | ((with_reducible apply wpList_loadAll HO); exact rfl; exact rfl; (repeat (with_reducible (first | exact At.head _ | apply At.tail))); infer_instance; exact rfl; exact rfl; (simp only [Act.put, zA, zB, zC])) | ((with_reducible apply wpList_loadOne HO); exact rfl; exact rfl; (repeat (with_reducible (first | exact At.head _ | apply At.tail))); exact rfl; infer_instance; exact rfl; (simp only [Act.put, zA, zB, zC]))) | ((with_reducible apply wpList_loadAt1 HO); exact rfl; exact rfl; exact (fun w' h1 => CL.out w' _ h1 (by intro e he; repeat (first | exact he | apply List.mem_cons_of_mem))); infer_instance; exact rfl; (simp only [Act.put, zA, zB, zC])) | (go_at_call 95; go_must ((with_reducible refine (BCk.out _ _ HO (by intro e he; repeat (first | exact he | apply List.mem_cons_of_mem))).mono ?_); rintro e w ⟨rfl, hb⟩; replace HO := HO.call hb; clear hb)))
            go_roundw
            case rel => exact ⟨k + 1, by omega, by go_num, by rw [hnl]; exact HO⟩
            case measure => simp [intOf] <;> omega
          · rw [if_neg hb] at HLk
            have hll : (ol.map lineC).length + 1 ≤ 1000000 := by rw [List.length_map]; omega
            go_wp2_with (first | go_big_skip | (first | go_big_skip | ((with_reducible apply wpList_loadAll HO); exact rfl; exact rfl; (repeat (with_reducible (first | exact At.head _ | apply At.tail))); infer_instance; exact rfl; exact rfl; (simp only [Act.put, zA, zB, zC])) | ((with_reducible apply wpList_loadOne HO); exact rfl; exact rfl; (repeat (with_reducible (first | exact At.head _ | apply At.tail))); exact rfl; infer_instance; exact rfl; (simp only [Act.put, zA, zB, zC]))) | ((with_reducible apply wpList_loadAt1 HO); exact rfl; exact rfl; exact (fun w' h1 => CL.out w' _ h1 (by intro e he; repeat (first | exact he | apply List.mem_cons_of_mem))); infer_instance; exact rfl; (simp only [Act.put, zA, zB, zC])) | (go_at_call 95; go_must ((with_reducible refine (BCk.out _ _ HO (by intro e he; repeat (first | exact he | apply List.mem_cons_of_mem))).mono ?_); rintro e w ⟨rfl, hb⟩; replace HO := HO.call hb; clear hb)))
            go_loopw [9, 10] (fun sv iv wr => ∃ i : Nat, i ≤ ls.length ∧ iv = .int .i64 (i : Int) ∧ sv = .int .i64 (sinceOf (ls.take i) nw ((k : Int) + 1)) ∧ Own W wr (row 178 3 u6 (ol.map lineC) :: box r (.cells #[.int .i64 nw, .slice p ls.length c] 58) :: row 178 3 (.slice p ls.length c) (ls.map lineC) :: M)) (fun _ iv _ => ls.length - (intOf iv).toNat)
            case atStart => exact ⟨0, by omega, rfl, by rw [hs0.out], HO⟩
            case round =>
              clear HO
              obtain ⟨i, hi, rfl, rfl, HO⟩ := hrel
              by_cases hil : i < ls.length
              · have hiI : (i : Int) < (ls.length : Int) := by omega
                obtain ⟨q, rfl⟩ : ∃ q, p = some q := by
                  obtain ⟨q, c', h⟩ := (HO.rowForm (v := .slice p ls.length c) (.tail _ _ _ (.tail _ _ _ (.head _)))).2 (by rw [List.length_map]; omega)
                  rw [List.length_map] at h
                  cases h
                  exact ⟨q, rfl⟩
                have RW := fun (w' : World) (h1 : Own W w' (row 178 3 u6 (ol.map lineC) :: box r (.cells #[.int .i64 nw, .slice (some q) ls.length c] 58) :: row 178 3 (.slice (some q) ls.length c) (ls.map lineC) :: M)) => isL_cell (isL_of_owns (lineC_len _) (h1.has (row 178 3 (.slice (some q) ls.length c) (ls.map lineC)) (List.mem_cons_of_mem _ (List.mem_cons_of_mem _ List.mem_cons_self)))) (j := i) (by simpa using hil)
                simp only [List.getElem_map] at RW
                have hst := HSk.out i hil
                generalize ls[i] = y at *
                obtain ⟨yo, ys, ya⟩ := y
                have r0 := Lib.hid (fun w' h1 => add0 (q.add (i * 3)) ▸ RW w' h1 0 _ rfl)
                have r1 := Lib.hid (fun w' h1 => RW w' h1 1 _ rfl)
                simp only at hst
                replace hst := Lib.hid hst
                generalize sinceOf (ls.take i) nw ((k : Int) + 1) = s0 at *
                clear RW
                by_cases hz : yo = (k : Int) + 1
                · rw [if_pos hz] at hst
                  go_wp2_with (first | go_big_skip | (first | go_big_skip | ((with_reducible apply wpList_loadAll HO); exact rfl; exact rfl; (repeat (with_reducible (first | exact At.head _ | apply At.tail))); infer_instance; exact rfl; exact rfl; (simp only [Act.put, zA, zB, zC])) | ((with_reducible apply wpList_loadOne HO); exact rfl; exact rfl; (repeat (with_reducible (first | exact At.head _ | apply At.tail))); exact rfl; infer_instance; exact rfl; (simp only [Act.put, zA, zB, zC]))) | ((with_reducible apply wpList_loadAt1 HO); exact rfl; exact rfl; exact (fun w' h1 => r0.out w' h1); infer_instance; exact rfl; (simp only [Act.put, zA, zB, zC])) | ((with_reducible apply wpList_loadAt1 HO); exact rfl; exact rfl; exact (fun w' h1 => r1.out w' h1); infer_instance; exact rfl; (simp only [Act.put, zA, zB, zC])))
                  go_roundw
                  case rel => exact ⟨i + 1, by omega, by go_num, by rw [hst.out], HO⟩
                  case measure => simp [intOf] <;> omega
                · rw [if_neg hz] at hst
                  go_wp2_with (first | go_big_skip | (first | go_big_skip | ((with_reducible apply wpList_loadAll HO); exact rfl; exact rfl; (repeat (with_reducible (first | exact At.head _ | apply At.tail))); infer_instance; exact rfl; exact rfl; (simp only [Act.put, zA, zB, zC])) | ((with_reducible apply wpList_loadOne HO); exact rfl; exact rfl; (repeat (with_reducible (first | exact At.head _ | apply At.tail))); exact rfl; infer_instance; exact rfl; (simp only [Act.put, zA, zB, zC]))) | ((with_reducible apply wpList_loadAt1 HO); exact rfl; exact rfl; exact (fun w' h1 => r0.out w' h1); infer_instance; exact rfl; (simp only [Act.put, zA, zB, zC])) | ((with_reducible apply wpList_loadAt1 HO); exact rfl; exact rfl; exact (fun w' h1 => r1.out w' h1); infer_instance; exact rfl; (simp only [Act.put, zA, zB, zC])))
                  go_roundw
                  case rel => exact ⟨i + 1, by omega, by go_num, by rw [hst.out], HO⟩
                  case measure => simp [intOf] <;> omega
              · obtain rfl : i = ls.length := by omega
                rw [hse.out]
                generalize sinceOf ls nw ((k : Int) + 1) = sk at *
                obtain rfl := HLk.out
                go_wp2_with (first | go_big_skip | (first | go_big_skip | ((with_reducible apply wpList_loadAll HO); exact rfl; exact rfl; (repeat (with_reducible (first | exact At.head _ | apply At.tail))); infer_instance; exact rfl; exact rfl; (simp only [Act.put, zA, zB, zC])) | ((with_reducible apply wpList_loadOne HO); exact rfl; exact rfl; (repeat (with_reducible (first | exact At.head _ | apply At.tail))); exact rfl; infer_instance; exact rfl; (simp only [Act.put, zA, zB, zC]))) | (first | ((with_reducible apply wpList_lit1 HO); exact rfl; infer_instance; infer_instance; exact rfl; exact rfl; exact (by decide); exact rfl; clear HO; intro bl w HO; (simp only [Act.put, zA, zB, zC])) | ((with_reducible apply wpList_lit1c HO); exact rfl; infer_instance; infer_instance; (first | (simp [Act.eval]; rfl) | exact rfl); exact rfl; exact rfl; clear HO; intro bl w HO; (simp only [Act.put, zA, zB, zC]))) | ((with_reducible apply wpList_push1 HO); exact rfl; infer_instance; infer_instance; (first | (simp [Act.eval]; rfl) | exact rfl); exact rfl; intro _; (repeat (with_reducible (first | exact At.head _ | apply At.tail))); exact rfl; exact rfl; (first | omega | (simp; omega)); decide; exact rfl; clear HO; intro v2 w HO hv2; (simp only [Act.put, zA, zB, zC])))
                go_roundw
                case rel => exact ⟨k + 1, by omega, by go_num, by rw [hnl, List.map_append]; exact HO⟩
                case measure => simp [intOf] <;> omega
        · have hk' : k = S.L.length := by omega
          have hkI : ¬ ((k : Int) + 1 ≤ (S.L.length : Int)) := by omega
          rw [hk'] at HO
          obtain ⟨⟨p9, c9, rfl⟩, -⟩ := HO.rowForm (.head _)
          rw [List.length_map] at HO
          generalize hnl : seeL ls nw S.P S.L.length = nl at *
          go_wp2_with (first | go_big_skip | (first | go_big_skip | ((with_reducible apply wpList_loadAll HO); exact rfl; exact rfl; (repeat (with_reducible (first | exact At.head _ | apply At.tail))); infer_instance; exact rfl; exact rfl; (simp only [Act.put, zA, zB, zC])) | ((with_reducible apply wpList_loadOne HO); exact rfl; exact rfl; (repeat (with_reducible (first | exact At.head _ | apply At.tail))); exact rfl; infer_instance; exact rfl; (simp only [Act.put, zA, zB, zC]))) | ((with_reducible apply wpList_storeOne HO); exact rfl; exact rfl; (first | (simp [Act.eval]; rfl) | exact rfl); exact rfl; (repeat (with_reducible (first | exact At.head _ | apply At.tail))); infer_instance; exact (by simp); (simp only [List.set_cons_succ, List.set_cons_zero]; rfl); exact rfl; clear HO; intro w HO; (simp only [Act.put])) | ((with_reducible apply wpList_loadAt1 HO); exact rfl; exact rfl; exact (fun w' h1 => CL.out w' _ h1 (by intro e he; repeat (first | exact he | apply List.mem_cons_of_mem))); infer_instance; exact rfl; (simp only [Act.put, zA, zB, zC])))
          go_end0
          first | exact ⟨rfl, _, (HO.sub (by exact .cons_cons _ (.cons_cons _ (.cons _ (List.Sublist.refl _))))).perm (List.Perm.swap _ _ _)⟩ | exact ⟨_, rfl, (HO.sub (by exact .cons_cons _ (.cons_cons _ (.cons _ (List.Sublist.refl _))))).perm (List.Perm.swap _ _ _)⟩
end Go.Proofs.YtibabfedpdoofaaGreatDoor
namespace Go.Proofs.YtibabfedpdoofaaGreatDoor
open Go.RowKit Go.Own Go.Maps

def chE1 : EntS := ⟨1, 1, [97], [120], 1, 500, 0, 0, 0, 0, 0, []⟩
def chE2 : EntS := ⟨3, 0, [], [], 0, 0, 1, 0, 1, 0, 0, []⟩
def chE3 : EntS := ⟨3, 0, [], [], 0, 0, 1, 1, 1, 0, 0, []⟩
def chO : OrdS := ⟨1, [97], [120], 1, 500⟩
theorem applyS_reply {S : CoS} {A : InS} {x : EntS} (h : x.k = 3) : applyS S A x = replyS S x.o x.d x.c := by unfold applyS; rw [if_neg (by omega), if_neg (by omega), if_pos h]
theorem ch_one : applyS ⟨[], []⟩ zeroI chE1 = ⟨[(chO, ⟨1, 0, 0, 0, 0, 0, false⟩)], []⟩ := by
  have h : placeE [] chO = 0 := by decide +kernel
  show (⟨placeL [] chO, []⟩ : CoS) = _
  unfold placeL
  rw [h]
  rfl
theorem ch_two : applyS ⟨[(chO, ⟨1, 0, 0, 0, 0, 0, false⟩)], []⟩ zeroI chE2 = ⟨[(chO, ⟨2, 1, 0, 0, 0, 0, false⟩)], []⟩ := by
  rw [applyS_reply rfl]
  show replyS _ 1 0 1 = _
  unfold replyS
  rw [show ordAt [(chO, (⟨1, 0, 0, 0, 0, 0, false⟩ : D6))] 1 = some (chO, ⟨1, 0, 0, 0, 0, 0, false⟩) from rfl]
  dsimp only
  rw [show replyOf ⟨1, 0, 0, 0, 0, 0, false⟩ 0 1 = some ⟨2, 1, 0, 0, 0, 0, false⟩ by decide +kernel]
  dsimp only
  unfold replyP
  rw [if_neg (by decide +kernel), if_neg (by decide +kernel)]
  rfl
def chP : Pst := ⟨putK 1 1, 1, 1, 0, 500⟩
theorem chP_may : mayPst chP = true := mayPst_iff.2 ⟨putK_ne 1 1, by decide, by decide, by decide, by decide, by decide, by decide, by decide⟩
theorem ch_three : applyS ⟨[(chO, ⟨2, 1, 0, 0, 0, 0, false⟩)], []⟩ zeroI chE3 = ⟨[(chO, ⟨2, 2, 1, 0, 0, 0, false⟩)], [chP]⟩ := by
  rw [applyS_reply rfl]
  show replyS _ 1 1 1 = _
  unfold replyS
  rw [show ordAt [(chO, (⟨2, 1, 0, 0, 0, 0, false⟩ : D6))] 1 = some (chO, ⟨2, 1, 0, 0, 0, 0, false⟩) from rfl]
  dsimp only
  rw [show replyOf ⟨2, 1, 0, 0, 0, 0, false⟩ 1 1 = some ⟨2, 2, 1, 0, 0, 0, false⟩ by decide +kernel]
  dsimp only
  rw [show netS chO ⟨2, 2, 1, 0, 0, 0, false⟩ - netS chO ⟨2, 1, 0, 0, 0, 0, false⟩ = 500 by decide +kernel]
  unfold replyP
  rw [if_pos (by decide)]
  rw [show postL [] ⟨putK 1 1, 1, 1, 0, 500⟩ = [] ++ [chP] from post_new (p := chP) (by simp) (by simp) chP_may (by decide) (by simp)]
  rfl
def chS : CoS := ⟨[(chO, ⟨2, 2, 1, 0, 0, 0, false⟩)], [chP]⟩
def chI : InS := ⟨0, 1, [⟨1, 1, 1, 500, 0⟩], 0, 0, [], 0, 0, []⟩
def chE4 : EntS := ⟨4, 0, [], [], 0, 0, 0, 0, 0, 0, 1, [⟨1, 1, 1, 500, 0⟩]⟩
def chQ : Pst := ⟨sidK 1 1, 1, 2, 1, 500⟩
theorem chQ_may : mayPst chQ = true := mayPst_iff.2 ⟨sidK_ne 1 1, by decide, by decide, by decide, by decide, by decide, by decide, by decide⟩
theorem stmtP_one {P : List Pst} {f : Int → Int} {q : Int} (h : ∀ k : Nat, f ((k : Int) + 2) = 0) : ∀ k, stmtP P f q (k + 1) = stmtP P f q 1
  | 0 => rfl
  | k + 1 => by
    rw [stmtP, show ((k + 1 : Nat) : Int) + 1 = (k : Int) + 2 by omega, if_pos (h k)]
    exact stmtP_one h k
theorem ch_by (k : Nat) : byI zeroI chI ((k : Int) + 2) = 0 := by
  have h : ∀ (A : InS) d, A.r0 = [⟨1, 1, 1, 500, 0⟩] ∨ A.r0 = [] → partyOf d = 0 → rowOf A ((k : Int) + 2) d = none := fun A d hA hd => by
    unfold rowOf
    split
    · rw [hd]
      show (A.r0).find? _ = none
      rw [List.find?_eq_none]
      intro r hr
      rcases hA with h | h
      · rw [h] at hr
        obtain rfl := List.mem_singleton.1 hr
        simp
        omega
      · rw [h] at hr; cases hr
    · rfl
  unfold byI netI
  rw [h chI 1 (.inl rfl) rfl, h chI 4 (.inl rfl) rfl, h zeroI 1 (.inr rfl) rfl, h zeroI 4 (.inr rfl) rfl]
  rfl
theorem ch_four : applyS chS zeroI chE4 = ⟨chS.L, [chP, chQ]⟩ ∧ applyI zeroI chE4 = chI ∧ applyE chS zeroI chE4 = 0 := by
  have h1 : accE zeroI 0 1 [⟨1, 1, 1, 500, 0⟩] = 0 := by decide +kernel
  refine ⟨?_, ?_, h1⟩
  · show (if accE zeroI 0 1 [⟨1, 1, 1, 500, 0⟩] = 0 then ({ chS with P := stmtP chS.P (byI zeroI chI) 1 60 } : CoS) else chS) = _
    rw [if_pos h1, stmtP_one ch_by 59]
    have h2 : byI zeroI chI 1 = 500 := by decide +kernel
    show (⟨chS.L, if byI zeroI chI 1 = 0 then [chP] else postL [chP] (stPst 1 1 (byI zeroI chI 1))⟩ : CoS) = _
    rw [h2, if_neg (by decide)]
    rw [show postL [chP] (stPst 1 1 500) = [chP] ++ [chQ] from post_new (p := chQ) (fun q hq => by obtain rfl := List.mem_singleton.1 hq; exact ⟨chP_may, by decide⟩) (by simp) chQ_may (by decide) (fun q hq => by obtain rfl := List.mem_singleton.1 hq; exact put_ne_sid (by decide))]
    rfl
  · show (if (4 : Int) = 4 ∧ accE zeroI 0 1 [⟨1, 1, 1, 500, 0⟩] = 0 then _ else _) = _
    rw [if_pos ⟨rfl, h1⟩]
    rfl
theorem ch_ok : CoOk chS := by
  have h := coreOf_ok [chE1, chE2, chE3] 3 (by decide)
  have h1 : coreOf ([chE1, chE2, chE3].take 3) = (chS, zeroI) := by
    show (applyS (applyS (applyS ⟨[], []⟩ zeroI chE1) zeroI chE2) zeroI chE3, zeroI) = _
    rw [ch_one, ch_two, ch_three]
    rfl
  rw [h1] at h
  exact h.1

set_option maxHeartbeats 16000000 in
set_option maxRecDepth 100000 in
theorem charged_any (W : World) (hL : LaidE W) : Calls Tryz.prog 77 #[] W fun e w' => ∃ a i, e = .returned (.pointer (some ⟨a.c, 0, none⟩)) ∧ Own W w' (coPs a chS i zeroI ++ (inPs i zeroI ++ [])) := by
  have HO := Own.start W
  have A1 := fun (w : World) (a : CoA) (i : InA) (h : Own W w (coPs a ⟨[], []⟩ i zeroI ++ (inPs i zeroI ++ []))) => coApply_any chE1 h ⟨.old (nilRows W) _, by decide, by decide, rfl⟩ zeroI_ok coNew_ok (by decide) hL
  have A2 := fun (w : World) (a : CoA) (i : InA) (h : Own W w (coPs a ⟨[(chO, ⟨1, 0, 0, 0, 0, 0, false⟩)], []⟩ i zeroI ++ (inPs i zeroI ++ []))) => coApply_any chE2 h ⟨.old (nilRows W) _, by decide, by decide, rfl⟩ zeroI_ok ⟨by decide, by decide +kernel, .nil⟩ (by decide) hL
  have A3 := fun (w : World) (a : CoA) (i : InA) (h : Own W w (coPs a ⟨[(chO, ⟨2, 1, 0, 0, 0, 0, false⟩)], []⟩ i zeroI ++ (inPs i zeroI ++ []))) => coApply_any chE3 h ⟨.old (nilRows W) _, by decide, by decide, rfl⟩ zeroI_ok ⟨by decide, by decide +kernel, .nil⟩ (by decide) hL
  rw [ch_one] at A1
  rw [ch_two] at A2
  rw [ch_three] at A3
  rw [show applyI zeroI chE1 = zeroI from rfl] at A1
  rw [show applyI zeroI chE2 = zeroI from rfl] at A2
  rw [show applyI zeroI chE3 = zeroI from rfl] at A3
  simp only [chE1] at A1
  simp only [chE2] at A2
  simp only [chE3] at A3
  go_enter Tryz.func77, Tryz.ntmps77
  go_wp2_with (first | go_big_skip | (go_at_call 25; go_must ((with_reducible refine (coNew_any _).mono ?_); rintro e w ⟨a, rfl, HO1⟩; replace HO := HO.lift HO1; clear HO1; rw [List.append_assoc] at HO)) | (go_at_call 27; first | ((with_reducible refine (A1 _ _ _ HO).mono ?_); clear HO; rintro e w ⟨rfl, u', v', i', -, HO⟩) | ((with_reducible refine (A2 _ _ _ HO).mono ?_); clear HO; rintro e w ⟨rfl, u', v', i', -, HO⟩) | ((with_reducible refine (A3 _ _ _ HO).mono ?_); clear HO; rintro e w ⟨rfl, u', v', i', -, HO⟩)))
  go_ret
  exact ⟨{ a with u := u', v := v' }, i', rfl, HO⟩
end Go.Proofs.YtibabfedpdoofaaGreatDoor
namespace Go.Proofs.YtibabfedpdoofaaGreatDoor
open Go.RowKit Go.Own Go.Maps

theorem run_line_neq (p q : LineS) (w : World) : (binOp .neq 158 (.agg #[.int .i64 p.o, .int .i64 p.s, .int .i64 p.a]) (.agg #[.int .i64 q.o, .int .i64 q.s, .int .i64 q.a])).run Tryz.prog w = .ok (.bool (!decide (p = q))) w := by
  obtain ⟨a, b, c⟩ := p
  obtain ⟨a', b', c'⟩ := q
  go_simp
  (repeat' split) <;> simp_all
theorem ag3 : seeL [] (seeN 0 3) chS.P chS.L.length = [⟨1, 3, 500⟩] := by decide +kernel
theorem ag7 : seeL [⟨1, 3, 500⟩] (seeN (seeN 0 3) 7) chS.P chS.L.length = [⟨1, 3, 500⟩] := by decide +kernel
theorem ag8 : seeL [⟨1, 3, 500⟩] (seeN 7 8) [chP, chQ] chS.L.length = [] := by decide +kernel
theorem ao4 : oldV (oldL [⟨1, 3, 500⟩] 7 4) = .tuple #[.int .i64 1, .int .i64 500, .bool true] := by
  rw [show oldL [⟨1, 3, 500⟩] 7 4 = (1, 500, true) by decide +kernel]
  rfl
theorem ao5 : oldV (oldL [⟨1, 3, 500⟩] 7 5) = .tuple #[.int .i64 0, .int .i64 0, .bool true] := by
  rw [show oldL [⟨1, 3, 500⟩] 7 5 = (0, 0, true) by decide +kernel]
  rfl

set_option maxHeartbeats 16000000 in
set_option maxRecDepth 100000 in
theorem aged_any (W : World) (hL : LaidE W) : Calls Tryz.prog 23 #[] W fun e w' => e = .returned (.bool true) ∧ Below W.heap.size W w' := by
  have HO := Own.start W
  have HC : ∀ (a : CoA) (S : CoS) (i : InA) (A : InS) (w' : World) (L' : List Ent), Own W w' L' → (∀ e ∈ coPs a S i A ++ (inPs i A ++ []), e ∈ L') → CoAt w' a S i A := fun a S i A w' L' h hm => Own.coAt h (hm _ (.head _)) (hm _ (.tail _ (.head _))) (hm _ (.tail _ (.tail _ (.head _))))
  have S3 := fun (a : CoA) (i : InA) (w : World) (g : Nat) (v : Value) (h : Own W w (agPs g 0 v [] ++ (coPs a chS i zeroI ++ (inPs i zeroI ++ [])))) => agSee_any 3 h (HC a chS i zeroI) (by decide)
  have S7 := fun (a : CoA) (i : InA) (w : World) (g : Nat) (v : Value) (h : Own W w (agPs g (seeN 0 3) v [⟨1, 3, 500⟩] ++ (coPs a chS i zeroI ++ (inPs i zeroI ++ [])))) => agSee_any 7 h (HC a chS i zeroI) (by decide)
  have S8 := fun (a : CoA) (i : InA) (w : World) (g : Nat) (v : Value) (L : List Ent) (h : Own W w (agPs g 7 v [⟨1, 3, 500⟩] ++ (coPs a ⟨chS.L, [chP, chQ]⟩ i chI ++ (inPs i chI ++ [])))) => agSee_any 8 h (HC a ⟨chS.L, [chP, chQ]⟩ i chI) (by decide)
  rw [ag3] at S3
  rw [ag7] at S7
  rw [show seeN (seeN 0 3) 7 = 7 by decide +kernel] at S7
  have LK : LinesOk 7 [⟨1, 3, 500⟩] := ⟨by decide, by decide, by decide +kernel⟩
  have O4 := fun (g : Nat) (v : Value) (w : World) (h : AgAt w g 7 v [⟨1, 3, 500⟩]) => agOld_any h LK 4 (by decide)
  have O5 := fun (g : Nat) (v : Value) (w : World) (h : AgAt w g 7 v [⟨1, 3, 500⟩]) => agOld_any h LK 5 (by decide)
  rw [ao4] at O4
  rw [ao5] at O5
  go_enter Tryz.func23, Tryz.ntmps23
  go_upto_region 5 with (first | go_big_skip | (go_at_call 24; go_must ((with_reducible refine (agNew_any _).mono ?_); rintro e w ⟨g, rfl, HO1⟩; replace HO := HO.lift HO1; clear HO1; rw [List.append_nil] at HO)) | (go_at_call 77; go_must ((with_reducible refine (charged_any _ (hL.below HO.grown)).mono ?_); rintro e w ⟨a, i, rfl, HO1⟩; replace HO := (HO.lift HO1).perm List.perm_append_comm; clear HO1)) | (go_at_call 30; first | ((with_reducible refine (S3 _ _ _ _ _ HO).mono ?_); clear HO; rintro e w ⟨v', rfl, HO⟩) | ((with_reducible refine (S7 _ _ _ _ _ HO).mono ?_); clear HO; rintro e w ⟨v', rfl, HO⟩)) | (go_at_call 35; go_must ((with_reducible refine (agLines_any (g := g) (now := 7) (v := v') (ls := [⟨1, 3, 500⟩]) (Own.agAt HO (List.Mem.head _) (List.Mem.tail _ (List.Mem.head _))) (rowNil_of (HO.has _ (List.Mem.tail _ (List.Mem.head _)))) (by decide)).mono ?_); rintro e w ⟨v9, rfl, HO1⟩; replace HO := HO.lift HO1; clear HO1)))
  obtain ⟨q9, c9, hv9, -, -, -⟩ := (isL_of_owns (lineC_len _) (HO.has _ (List.Mem.head _))).at (by decide)
  subst hv9
  simp only [List.map_cons, List.map_nil, List.length_cons, List.length_nil, lineC] at HO ⊢
  have AG := fun (w : World) (L : List Ent) (h : Own W w L) h1 h2 => Own.agAt h (g := g) (now := 7) (v := v') (ls := [⟨1, 3, 500⟩]) h1 h2
  go_upto_region 7 with (first | go_big_skip | (go_at_call 32; (have h4 := O4 _ _ _ (AG _ _ HO (List.Mem.tail _ (List.Mem.head _)) (List.Mem.tail _ (List.Mem.tail _ (List.Mem.head _))))); (have h5 := O5 _ _ _ (AG _ _ HO (List.Mem.tail _ (List.Mem.head _)) (List.Mem.tail _ (List.Mem.tail _ (List.Mem.head _))))); first | ((with_reducible refine h4.mono ?_); clear h4 h5; rintro e w ⟨rfl, hb⟩; replace HO := HO.call hb; clear hb) | ((with_reducible refine h5.mono ?_); clear h4 h5; rintro e w ⟨rfl, hb⟩; replace HO := HO.call hb; clear hb)))
  have hq : ∀ w, (binOp .neq 158 (.agg #[.int .i64 1, .int .i64 3, .int .i64 500]) (.agg #[.int .i64 1, .int .i64 3, .int .i64 500])).run Tryz.prog w = .ok (.bool false) w := fun w => run_line_neq ⟨1, 3, 500⟩ ⟨1, 3, 500⟩ w
  have RW : ∀ (w' : World) (L : List Ent), Own W w' L → row 158 3 (.slice (some q9) (0 + 1) c9) [[.int .i64 1, .int .i64 3, .int .i64 500]] ∈ L → ∀ (j : Nat) (u : Value), [Value.int .i64 1, .int .i64 3, .int .i64 500][j]? = some u → w'.cell? (q9.add j) = some u := fun w' L h hm j u hu => by
    obtain ⟨b, cap, hb, _, _, hR⟩ := (isL_of_owns (L := [[.int .i64 1, .int .i64 3, .int .i64 500]]) (by decide) (h.has _ hm)).at (by decide)
    cases hb
    have := hR.c 0 (by decide) j u hu
    simpa [add0] using this
  go_wp2_with (first | go_big_skip | (first | ((with_reducible apply wpList_lit1 HO); exact rfl; infer_instance; infer_instance; exact rfl; exact rfl; exact (by decide); exact rfl; clear HO; intro bl w HO; (simp only [Act.put, zA, zB, zC])) | ((with_reducible apply wpList_lit1c HO); exact rfl; infer_instance; infer_instance; (first | (simp [Act.eval]; rfl) | exact rfl); exact rfl; exact rfl; clear HO; intro bl w HO; (simp only [Act.put, zA, zB, zC]))) | ((with_reducible apply wpList_loadAt HO); exact rfl; exact rfl; exact (fun w' h1 => RW w' _ h1 (List.Mem.head _)); infer_instance; exact rfl; exact rfl; (simp only [Act.put, zA, zB, zC])))
  replace HO := HO.litRow (A := [rPaid].map rowC) (k := 5) (rowC_len _) rfl rfl (by unfold maxLen; simp)
  have hro : RowsIn W (row 160 5 (.slice (some ⟨bl, 0, none⟩) 1 1) ([rPaid].map rowC) :: agPs g 7 v' [⟨1, 3, 500⟩]) (.slice (some ⟨bl, 0, none⟩) 1 1) [rPaid] := fun w' L' h hm => isRows_of_isL (isL_of_owns (rowC_len _) (h.has _ (hm _ (List.Mem.head _))))
  have HO2 : Own W w (coPs a chS i zeroI ++ (inPs i zeroI ++ (row 160 5 (.slice (some ⟨bl, 0, none⟩) 1 1) ([rPaid].map rowC) :: agPs g 7 v' [⟨1, 3, 500⟩]))) := by
    have h1 := HO.sub (L' := row 160 5 (.slice (some ⟨bl, 0, none⟩) 1 1) ([rPaid].map rowC) :: (agPs g 7 v' [⟨1, 3, 500⟩] ++ (coPs a chS i zeroI ++ (inPs i zeroI ++ [])))) (.cons_cons _ (.cons _ (List.Sublist.refl _)))
    rw [List.append_nil] at h1
    have h2 := h1.perm ((List.perm_append_comm (l₁ := row 160 5 (.slice (some ⟨bl, 0, none⟩) 1 1) ([rPaid].map rowC) :: agPs g 7 v' [⟨1, 3, 500⟩]) (l₂ := coPs a chS i zeroI ++ inPs i zeroI)))
    rwa [List.append_assoc] at h2
  clear HO
  have A4 := coApply_any chE4 HO2 ⟨hro, by decide, by decide, rfl⟩ zeroI_ok ch_ok (by decide) hL
  rw [ch_four.1, ch_four.2.1, ch_four.2.2] at A4
  simp only [chE4] at A4
  go_wp2_with (first | go_big_skip | (go_at_call 27; go_must ((with_reducible refine A4.mono ?_); rintro e w ⟨rfl, u', w', i', -, HO⟩)))
  clear A4 HO2 hro
  have HO3 : Own W w (agPs g 7 v' [⟨1, 3, 500⟩] ++ (coPs { a with u := u', v := w' } ⟨chS.L, [chP, chQ]⟩ i' chI ++ (inPs i' chI ++ []))) := by
    have h1 := (List.append_assoc _ _ _ ▸ HO : Own W w ((coPs { a with u := u', v := w' } ⟨chS.L, [chP, chQ]⟩ i' chI ++ inPs i' chI) ++ (row 160 5 (.slice (some ⟨bl, 0, none⟩) 1 1) ([rPaid].map rowC) :: agPs g 7 v' [⟨1, 3, 500⟩])))
    have h2 := (h1.perm List.perm_append_comm).tail
    rw [List.append_nil]
    exact h2
  have A8 := S8 _ _ _ _ _ [] HO3
  rw [ag8, show seeN 7 8 = 8 by decide +kernel] at A8
  dsimp only at A8
  clear HO HO3
  go_wp2_with (first | go_big_skip | (go_at_call 30; go_must ((with_reducible refine A8.mono ?_); rintro e w ⟨v8, rfl, HO⟩)) | (go_at_call 35; go_must ((with_reducible refine (agLines_any (g := g) (now := 8) (v := v8) (ls := []) (Own.agAt HO (List.Mem.head _) (List.Mem.tail _ (List.Mem.head _))) (rowNil_of (HO.has _ (List.Mem.tail _ (List.Mem.head _)))) (by decide)).mono ?_); rintro e w ⟨v9, rfl, HO1⟩; replace HO := HO.lift HO1; clear HO1; obtain ⟨⟨p10, c10, rfl⟩, -⟩ := HO.rowForm (t := 158) (k := 3) (A := ([] : List LineS).map lineC) (v := v9) (At.head _); simp only [List.map_nil, List.length_nil] at HO ⊢)))
  go_ret
  exact ⟨rfl, HO.grown⟩
end Go.Proofs.YtibabfedpdoofaaGreatDoor
namespace Go.Proofs.YtibabfedpdoofaaGreatDoor
open Go.RowKit Go.Own Go.Maps

theorem oldFold_stop (now least : Int) : ∀ (ls : List LineS) (s : Int × Int × Bool), s.2.2 = false → ls.foldl (oldStep now least) s = s
  | [], _, _ => rfl
  | x :: l, s, h => by
    rw [List.foldl_cons, show oldStep now least s x = s by unfold oldStep; rw [if_neg (by rw [h]; simp)]]
    exact oldFold_stop now least l s h
theorem oldL_stop {ls : List LineS} {now least : Int} {j : Nat} (h : ((ls.take j).foldl (oldStep now least) (0, 0, true)).2.2 = false) : oldV (oldL ls now least) = .tuple #[.int .i64 0, .int .i64 0, .bool false] := by
  have h1 : oldL ls now least = (ls.take j).foldl (oldStep now least) (0, 0, true) := by
    conv => lhs; unfold oldL; rw [← List.take_append_drop j ls]
    rw [List.foldl_append]
    exact oldFold_stop now least _ _ h
  rw [h1]
  unfold oldV
  rw [if_neg (by rw [h]; simp)]

set_option maxHeartbeats 16000000 in
set_option maxRecDepth 100000 in
theorem raOld_any {W : World} {r : Nat} {now : Int} {v : Value} {ls : List LineS} (hb : W.heap[r]? = some (.cells #[.int .i64 now, v] 58)) (hr : IsL W 3 v (ls.map lineC)) (hk : LinesOk now ls) (least : Int) (hl : ls.length ≤ 100000) : Calls Tryz.prog 33 #[.pointer (some ⟨r, 0, none⟩), .int .i64 least] W fun e w' => e = .returned (oldV (oldL ls now least)) ∧ Below W.heap.size W w' := by
  have HO := Own.start W
  obtain ⟨p, c, hv, hmx⟩ := hr.slice
  rw [List.length_map] at hv hmx
  have HR := Lib.hid hr
  have h1 := old_cell (cs := [.int .i64 now, v]) hb 0 rfl
  have h2 := old_cell (cs := [.int .i64 now, v]) hb 1 rfl
  have hlt := old_lt hb
  have hmx' : (ls.length : Int) ≤ 100000 := by omega
  subst hv
  clear hb hr
  have HG := Lib.hid (show oldL ls now least = ls.foldl (oldStep now least) (0, 0, true) from rfl)
  have HSt := Lib.hid (fun (j : Nat) (h : ((ls.take j).foldl (oldStep now least) (0, 0, true)).2.2 = false) => oldL_stop h)
  generalize hgv : oldV (oldL ls now least) = gv at *
  replace hgv := Lib.hid hgv
  go_enter Tryz.func33, Tryz.ntmps33
  go_wp2_with (first | go_big_skip)
  have HS := Lib.hid (fun (j : Nat) (hj : j < ls.length) => show (ls.take (j + 1)).foldl (oldStep now least) (0, 0, true) = oldStep now least ((ls.take j).foldl (oldStep now least) (0, 0, true)) ls[j] from by rw [List.take_succ_eq_append_getElem hj, List.foldl_append]; rfl)
  have HI := Lib.hid (fun (j : Nat) => oldFold_ok now least (ls.take j) (s := (0, 0, true)) rfl)
  have HM := Lib.hid (fun (j : Nat) => oldFold_many now least (ls.take j) (s := (0, 0, true)) (Int.le_refl _))
  obtain ⟨k0, k1, k2⟩ := hk
  replace k2 := Lib.hid k2
  go_loopw [7, 8, 9] (fun m n iv wr => ∃ (j : Nat) (s : Int × Int × Bool), j ≤ ls.length ∧ s = (ls.take j).foldl (oldStep now least) (0, 0, true) ∧ s.2.2 = true ∧ m = .int .i64 s.1 ∧ n = .int .i64 s.2.1 ∧ iv = .int .i64 (j : Int) ∧ Own W wr []) (fun _ _ iv _ => ls.length - (intOf iv).toNat)
  case atStart => exact ⟨0, _, by omega, rfl, rfl, rfl, rfl, rfl, HO⟩
  case round =>
    clear HO
    obtain ⟨j, s, hj, hs, hok, rfl, rfl, rfl, HO⟩ := hrel
    by_cases hjl : j < ls.length
    · have hjI : (j : Int) < (ls.length : Int) := by omega
      obtain ⟨b, rfl, hst⟩ := oldAt HR.out rfl hjl
      have HSj := HS.out j hjl
      have HIj := HI.out j
      have HMj := HM.out j
      have k2j := k2.out _ (List.getElem_mem hjl)
      rw [← hs] at HSj HIj HMj
      have hjl2 : (ls.take j).length ≤ j := by simp; omega
      have HX := Lib.hid (HSt.out (j + 1))
      clear hs
      obtain ⟨m, n, ok⟩ := s
      simp only at hok
      subst hok
      generalize ls[j] = y at *
      obtain ⟨yo, ys, ya⟩ := y
      unfold lineC at hst
      replace hst := Lib.hid hst
      rw [show oldStep now least (m, n, true) ⟨yo, ys, ya⟩ = if true = true ∧ least ≤ now - ys then (m + 1, (addI n ya).1, (addI n ya).2) else (m, n, true) from rfl] at HSj
      simp only at HIj HMj k2j ⊢
      have hn := inI_iff.1 HIj
      have hy := inI_iff.1 k2j.2.2
      have e0 : IntKind.i64.wrap (now - ys) = now - ys := wrap_in (inI_iff.2 (by omega))
      by_cases hz : now - ys < least
      · rw [if_neg (by omega)] at HSj
        replace HSj := Lib.hid HSj
        go_upto_region 6 with (first | go_big_skip | ((with_reducible apply wpList_loadOld1 HO); exact rfl; exact rfl; exact hlt; exact h1; infer_instance; exact rfl; (simp only [Act.put, zA, zB, zC])) | ((with_reducible apply wpList_loadOld1 HO); exact rfl; exact rfl; exact hlt; exact h2; infer_instance; exact rfl; (simp only [Act.put, zA, zB, zC])) | (first | go_big_skip | ((with_reducible apply wpList_loadAll HO); exact rfl; exact rfl; (repeat (with_reducible (first | exact At.head _ | apply At.tail))); infer_instance; exact rfl; exact rfl; (simp only [Act.put, zA, zB, zC])) | ((with_reducible apply wpList_loadOne HO); exact rfl; exact rfl; (repeat (with_reducible (first | exact At.head _ | apply At.tail))); exact rfl; infer_instance; exact rfl; (simp only [Act.put, zA, zB, zC]))) | ((with_reducible apply wpList_loadAt HO); exact rfl; exact rfl; exact (fun w' h1 => hst.out w' h1.grown); infer_instance; exact rfl; exact rfl; (simp only [Act.put, zA, zB, zC])) | (first | ((with_reducible apply wpList_boxAgg _ HO rfl); exact rfl; exact rfl; exact rfl; clear HO; intro b1 w HO; (simp only [Act.put, zA, zB, zC])) | ((with_reducible apply wpList_allocAgg _ HO rfl); exact rfl; infer_instance; exact rfl; clear HO; intro b1 w HO; (simp only [Act.put, zA, zB, zC]))) | ((with_reducible apply wpList_storeAll HO); exact rfl; exact rfl; exact rfl; (repeat (with_reducible (first | exact At.head _ | apply At.tail))); infer_instance; exact rfl; exact rfl; exact rfl; exact rfl; clear HO; intro w HO; (simp only [Act.put])))
        refine region_own HO (by kernel_rfl) (by kernel_rfl) ?_
        clear HO
        intro F HF
        repeat (first | (first | (first | go_big_quiet_skip | ((with_reducible apply wpQuiet_loadAll HF); exact rfl; exact rfl; (repeat (with_reducible (first | exact At.head _ | apply At.tail))); infer_instance; exact rfl; exact rfl; (simp only [Act.put, zA, zB, zC])) | ((with_reducible apply wpQuiet_loadOne HF); exact rfl; exact rfl; (repeat (with_reducible (first | exact At.head _ | apply At.tail))); exact rfl; infer_instance; exact rfl; (simp only [Act.put, zA, zB, zC])) | ((with_reducible apply wpQuiet_loadPart HF); exact rfl; exact rfl; (repeat (with_reducible (first | exact At.head _ | apply At.tail))); infer_instance; exact (Nat.le_of_ble_eq_true rfl); (simp only [List.drop_succ_cons, List.drop_zero, List.take_succ_cons, List.take_zero]; rfl); exact rfl; (simp only [Act.put, zA, zB, zC]))) | ((with_reducible apply wpQuiet_loadOld1 HF); exact rfl; exact rfl; exact hlt; exact h1; infer_instance; exact rfl; (simp only [Act.put, zA, zB, zC]))) | go_big_quiet_step (fail))
        refine wpQuiet_nil ?_
        intro x
        have HO := HF.own x
        clear HF
        generalize F x = w at *
        clear x F
        go_wp2_with fail
        replace HO := HO.tail
        go_roundw
        case rel => exact ⟨j + 1, _, by omega, rfl, by rw [HSj.out], by rw [HSj.out], by rw [HSj.out], by go_num, HO⟩
        case measure => simp [intOf] <;> omega
      · rw [if_pos ⟨rfl, by omega⟩] at HSj
        have e1 : 0 < ya → IntKind.i64.wrap (9223372036854775807 - ya) = 9223372036854775807 - ya := fun h => wrap_in (inI_iff.2 (by omega))
        have e2 : ya < 0 → IntKind.i64.wrap (-9223372036854775808 - ya) = -9223372036854775808 - ya := fun h => wrap_in (inI_iff.2 (by omega))
        by_cases hin : inI (n + ya) = true
        · have hni := inI_iff.1 hin
          have e3 : IntKind.i64.wrap (n + ya) = n + ya := wrap_in hin
          rw [show addI n ya = (n + ya, true) by unfold addI; rw [if_pos hin]] at HSj
          replace HSj := Lib.hid HSj
          have hc : (0 < ya ∧ ¬ (9223372036854775807 - ya < n)) ∨ (ya < 0 ∧ ¬ (n < -9223372036854775808 - ya)) ∨ ya = 0 := by omega
          clear hin HX
          rcases hc with ⟨c1, c2⟩ | ⟨c1, c2⟩ | rfl
          · have e1' := e1 c1
            clear e1 e2
            have c3 : ¬ (ya < 0) := by omega
            go_upto_region 6 with (first | go_big_skip | ((with_reducible apply wpList_loadOld1 HO); exact rfl; exact rfl; exact hlt; exact h1; infer_instance; exact rfl; (simp only [Act.put, zA, zB, zC])) | ((with_reducible apply wpList_loadOld1 HO); exact rfl; exact rfl; exact hlt; exact h2; infer_instance; exact rfl; (simp only [Act.put, zA, zB, zC])) | (first | go_big_skip | ((with_reducible apply wpList_loadAll HO); exact rfl; exact rfl; (repeat (with_reducible (first | exact At.head _ | apply At.tail))); infer_instance; exact rfl; exact rfl; (simp only [Act.put, zA, zB, zC])) | ((with_reducible apply wpList_loadOne HO); exact rfl; exact rfl; (repeat (with_reducible (first | exact At.head _ | apply At.tail))); exact rfl; infer_instance; exact rfl; (simp only [Act.put, zA, zB, zC]))) | ((with_reducible apply wpList_loadAt HO); exact rfl; exact rfl; exact (fun w' h1 => hst.out w' h1.grown); infer_instance; exact rfl; exact rfl; (simp only [Act.put, zA, zB, zC])) | (first | ((with_reducible apply wpList_boxAgg _ HO rfl); exact rfl; exact rfl; exact rfl; clear HO; intro b1 w HO; (simp only [Act.put, zA, zB, zC])) | ((with_reducible apply wpList_allocAgg _ HO rfl); exact rfl; infer_instance; exact rfl; clear HO; intro b1 w HO; (simp only [Act.put, zA, zB, zC]))) | ((with_reducible apply wpList_storeAll HO); exact rfl; exact rfl; exact rfl; (repeat (with_reducible (first | exact At.head _ | apply At.tail))); infer_instance; exact rfl; exact rfl; exact rfl; exact rfl; clear HO; intro w HO; (simp only [Act.put])))
            refine region_own HO (by kernel_rfl) (by kernel_rfl) ?_
            clear HO
            intro F HF
            repeat (first | (first | (first | go_big_quiet_skip | ((with_reducible apply wpQuiet_loadAll HF); exact rfl; exact rfl; (repeat (with_reducible (first | exact At.head _ | apply At.tail))); infer_instance; exact rfl; exact rfl; (simp only [Act.put, zA, zB, zC])) | ((with_reducible apply wpQuiet_loadOne HF); exact rfl; exact rfl; (repeat (with_reducible (first | exact At.head _ | apply At.tail))); exact rfl; infer_instance; exact rfl; (simp only [Act.put, zA, zB, zC])) | ((with_reducible apply wpQuiet_loadPart HF); exact rfl; exact rfl; (repeat (with_reducible (first | exact At.head _ | apply At.tail))); infer_instance; exact (Nat.le_of_ble_eq_true rfl); (simp only [List.drop_succ_cons, List.drop_zero, List.take_succ_cons, List.take_zero]; rfl); exact rfl; (simp only [Act.put, zA, zB, zC]))) | ((with_reducible apply wpQuiet_loadOld1 HF); exact rfl; exact rfl; exact hlt; exact h1; infer_instance; exact rfl; (simp only [Act.put, zA, zB, zC]))) | go_big_quiet_step (fail))
            refine wpQuiet_nil ?_
            intro x
            have HO := HF.own x
            clear HF
            generalize F x = w at *
            clear x F
            go_upto_region 9 with (first | go_big_skip | (first | go_big_skip | ((with_reducible apply wpList_loadAll HO); exact rfl; exact rfl; (repeat (with_reducible (first | exact At.head _ | apply At.tail))); infer_instance; exact rfl; exact rfl; (simp only [Act.put, zA, zB, zC])) | ((with_reducible apply wpList_loadOne HO); exact rfl; exact rfl; (repeat (with_reducible (first | exact At.head _ | apply At.tail))); exact rfl; infer_instance; exact rfl; (simp only [Act.put, zA, zB, zC]))))
            refine region_own HO (by kernel_rfl) (by kernel_rfl) ?_
            clear HO
            intro F HF
            repeat (first | (first | (first | go_big_quiet_skip | ((with_reducible apply wpQuiet_loadAll HF); exact rfl; exact rfl; (repeat (with_reducible (first | exact At.head _ | apply At.tail))); infer_instance; exact rfl; exact rfl; (simp only [Act.put, zA, zB, zC])) | ((with_reducible apply wpQuiet_loadOne HF); exact rfl; exact rfl; (repeat (with_reducible (first | exact At.head _ | apply At.tail))); exact rfl; infer_instance; exact rfl; (simp only [Act.put, zA, zB, zC])) | ((with_reducible apply wpQuiet_loadPart HF); exact rfl; exact rfl; (repeat (with_reducible (first | exact At.head _ | apply At.tail))); infer_instance; exact (Nat.le_of_ble_eq_true rfl); (simp only [List.drop_succ_cons, List.drop_zero, List.take_succ_cons, List.take_zero]; rfl); exact rfl; (simp only [Act.put, zA, zB, zC])))) | go_big_quiet_step (fail))
            refine wpQuiet_nil ?_
            intro x
            have HO := HF.own x
            clear HF
            generalize F x = w at *
            clear x F
            go_wp2_with fail
            replace HO := HO.tail
            go_roundw
            case rel => exact ⟨j + 1, _, by omega, rfl, by rw [HSj.out], by rw [HSj.out] <;> go_num, by rw [HSj.out] <;> first | (simp; done) | go_num, by go_num, HO⟩
            case measure => simp [intOf] <;> omega
          · have e2' := e2 c1
            clear e1 e2
            have c3 : ¬ (0 < ya) := by omega
            go_upto_region 6 with (first | go_big_skip | ((with_reducible apply wpList_loadOld1 HO); exact rfl; exact rfl; exact hlt; exact h1; infer_instance; exact rfl; (simp only [Act.put, zA, zB, zC])) | ((with_reducible apply wpList_loadOld1 HO); exact rfl; exact rfl; exact hlt; exact h2; infer_instance; exact rfl; (simp only [Act.put, zA, zB, zC])) | (first | go_big_skip | ((with_reducible apply wpList_loadAll HO); exact rfl; exact rfl; (repeat (with_reducible (first | exact At.head _ | apply At.tail))); infer_instance; exact rfl; exact rfl; (simp only [Act.put, zA, zB, zC])) | ((with_reducible apply wpList_loadOne HO); exact rfl; exact rfl; (repeat (with_reducible (first | exact At.head _ | apply At.tail))); exact rfl; infer_instance; exact rfl; (simp only [Act.put, zA, zB, zC]))) | ((with_reducible apply wpList_loadAt HO); exact rfl; exact rfl; exact (fun w' h1 => hst.out w' h1.grown); infer_instance; exact rfl; exact rfl; (simp only [Act.put, zA, zB, zC])) | (first | ((with_reducible apply wpList_boxAgg _ HO rfl); exact rfl; exact rfl; exact rfl; clear HO; intro b1 w HO; (simp only [Act.put, zA, zB, zC])) | ((with_reducible apply wpList_allocAgg _ HO rfl); exact rfl; infer_instance; exact rfl; clear HO; intro b1 w HO; (simp only [Act.put, zA, zB, zC]))) | ((with_reducible apply wpList_storeAll HO); exact rfl; exact rfl; exact rfl; (repeat (with_reducible (first | exact At.head _ | apply At.tail))); infer_instance; exact rfl; exact rfl; exact rfl; exact rfl; clear HO; intro w HO; (simp only [Act.put])))
            refine region_own HO (by kernel_rfl) (by kernel_rfl) ?_
            clear HO
            intro F HF
            repeat (first | (first | (first | go_big_quiet_skip | ((with_reducible apply wpQuiet_loadAll HF); exact rfl; exact rfl; (repeat (with_reducible (first | exact At.head _ | apply At.tail))); infer_instance; exact rfl; exact rfl; (simp only [Act.put, zA, zB, zC])) | ((with_reducible apply wpQuiet_loadOne HF); exact rfl; exact rfl; (repeat (with_reducible (first | exact At.head _ | apply At.tail))); exact rfl; infer_instance; exact rfl; (simp only [Act.put, zA, zB, zC])) | ((with_reducible apply wpQuiet_loadPart HF); exact rfl; exact rfl; (repeat (with_reducible (first | exact At.head _ | apply At.tail))); infer_instance; exact (Nat.le_of_ble_eq_true rfl); (simp only [List.drop_succ_cons, List.drop_zero, List.take_succ_cons, List.take_zero]; rfl); exact rfl; (simp only [Act.put, zA, zB, zC]))) | ((with_reducible apply wpQuiet_loadOld1 HF); exact rfl; exact rfl; exact hlt; exact h1; infer_instance; exact rfl; (simp only [Act.put, zA, zB, zC]))) | go_big_quiet_step (fail))
            refine wpQuiet_nil ?_
            intro x
            have HO := HF.own x
            clear HF
            generalize F x = w at *
            clear x F
            go_upto_region 9 with (first | go_big_skip | (first | go_big_skip | ((with_reducible apply wpList_loadAll HO); exact rfl; exact rfl; (repeat (with_reducible (first | exact At.head _ | apply At.tail))); infer_instance; exact rfl; exact rfl; (simp only [Act.put, zA, zB, zC])) | ((with_reducible apply wpList_loadOne HO); exact rfl; exact rfl; (repeat (with_reducible (first | exact At.head _ | apply At.tail))); exact rfl; infer_instance; exact rfl; (simp only [Act.put, zA, zB, zC]))))
            refine region_own HO (by kernel_rfl) (by kernel_rfl) ?_
            clear HO
            intro F HF
            repeat (first | (first | (first | go_big_quiet_skip | ((with_reducible apply wpQuiet_loadAll HF); exact rfl; exact rfl; (repeat (with_reducible (first | exact At.head _ | apply At.tail))); infer_instance; exact rfl; exact rfl; (simp only [Act.put, zA, zB, zC])) | ((with_reducible apply wpQuiet_loadOne HF); exact rfl; exact rfl; (repeat (with_reducible (first | exact At.head _ | apply At.tail))); exact rfl; infer_instance; exact rfl; (simp only [Act.put, zA, zB, zC])) | ((with_reducible apply wpQuiet_loadPart HF); exact rfl; exact rfl; (repeat (with_reducible (first | exact At.head _ | apply At.tail))); infer_instance; exact (Nat.le_of_ble_eq_true rfl); (simp only [List.drop_succ_cons, List.drop_zero, List.take_succ_cons, List.take_zero]; rfl); exact rfl; (simp only [Act.put, zA, zB, zC])))) | go_big_quiet_step (fail))
            refine wpQuiet_nil ?_
            intro x
            have HO := HF.own x
            clear HF
            generalize F x = w at *
            clear x F
            go_wp2_with fail
            replace HO := HO.tail
            go_roundw
            case rel => exact ⟨j + 1, _, by omega, rfl, by rw [HSj.out], by rw [HSj.out] <;> go_num, by rw [HSj.out] <;> first | (simp; done) | go_num, by go_num, HO⟩
            case measure => simp [intOf] <;> omega
          · clear e1 e2
            go_upto_region 6 with (first | go_big_skip | ((with_reducible apply wpList_loadOld1 HO); exact rfl; exact rfl; exact hlt; exact h1; infer_instance; exact rfl; (simp only [Act.put, zA, zB, zC])) | ((with_reducible apply wpList_loadOld1 HO); exact rfl; exact rfl; exact hlt; exact h2; infer_instance; exact rfl; (simp only [Act.put, zA, zB, zC])) | (first | go_big_skip | ((with_reducible apply wpList_loadAll HO); exact rfl; exact rfl; (repeat (with_reducible (first | exact At.head _ | apply At.tail))); infer_instance; exact rfl; exact rfl; (simp only [Act.put, zA, zB, zC])) | ((with_reducible apply wpList_loadOne HO); exact rfl; exact rfl; (repeat (with_reducible (first | exact At.head _ | apply At.tail))); exact rfl; infer_instance; exact rfl; (simp only [Act.put, zA, zB, zC]))) | ((with_reducible apply wpList_loadAt HO); exact rfl; exact rfl; exact (fun w' h1 => hst.out w' h1.grown); infer_instance; exact rfl; exact rfl; (simp only [Act.put, zA, zB, zC])) | (first | ((with_reducible apply wpList_boxAgg _ HO rfl); exact rfl; exact rfl; exact rfl; clear HO; intro b1 w HO; (simp only [Act.put, zA, zB, zC])) | ((with_reducible apply wpList_allocAgg _ HO rfl); exact rfl; infer_instance; exact rfl; clear HO; intro b1 w HO; (simp only [Act.put, zA, zB, zC]))) | ((with_reducible apply wpList_storeAll HO); exact rfl; exact rfl; exact rfl; (repeat (with_reducible (first | exact At.head _ | apply At.tail))); infer_instance; exact rfl; exact rfl; exact rfl; exact rfl; clear HO; intro w HO; (simp only [Act.put])))
            refine region_own HO (by kernel_rfl) (by kernel_rfl) ?_
            clear HO
            intro F HF
            repeat (first | (first | (first | go_big_quiet_skip | ((with_reducible apply wpQuiet_loadAll HF); exact rfl; exact rfl; (repeat (with_reducible (first | exact At.head _ | apply At.tail))); infer_instance; exact rfl; exact rfl; (simp only [Act.put, zA, zB, zC])) | ((with_reducible apply wpQuiet_loadOne HF); exact rfl; exact rfl; (repeat (with_reducible (first | exact At.head _ | apply At.tail))); exact rfl; infer_instance; exact rfl; (simp only [Act.put, zA, zB, zC])) | ((with_reducible apply wpQuiet_loadPart HF); exact rfl; exact rfl; (repeat (with_reducible (first | exact At.head _ | apply At.tail))); infer_instance; exact (Nat.le_of_ble_eq_true rfl); (simp only [List.drop_succ_cons, List.drop_zero, List.take_succ_cons, List.take_zero]; rfl); exact rfl; (simp only [Act.put, zA, zB, zC]))) | ((with_reducible apply wpQuiet_loadOld1 HF); exact rfl; exact rfl; exact hlt; exact h1; infer_instance; exact rfl; (simp only [Act.put, zA, zB, zC]))) | go_big_quiet_step (fail))
            refine wpQuiet_nil ?_
            intro x
            have HO := HF.own x
            clear HF
            generalize F x = w at *
            clear x F
            go_upto_region 9 with (first | go_big_skip | (first | go_big_skip | ((with_reducible apply wpList_loadAll HO); exact rfl; exact rfl; (repeat (with_reducible (first | exact At.head _ | apply At.tail))); infer_instance; exact rfl; exact rfl; (simp only [Act.put, zA, zB, zC])) | ((with_reducible apply wpList_loadOne HO); exact rfl; exact rfl; (repeat (with_reducible (first | exact At.head _ | apply At.tail))); exact rfl; infer_instance; exact rfl; (simp only [Act.put, zA, zB, zC]))))
            refine region_own HO (by kernel_rfl) (by kernel_rfl) ?_
            clear HO
            intro F HF
            repeat (first | (first | (first | go_big_quiet_skip | ((with_reducible apply wpQuiet_loadAll HF); exact rfl; exact rfl; (repeat (with_reducible (first | exact At.head _ | apply At.tail))); infer_instance; exact rfl; exact rfl; (simp only [Act.put, zA, zB, zC])) | ((with_reducible apply wpQuiet_loadOne HF); exact rfl; exact rfl; (repeat (with_reducible (first | exact At.head _ | apply At.tail))); exact rfl; infer_instance; exact rfl; (simp only [Act.put, zA, zB, zC])) | ((with_reducible apply wpQuiet_loadPart HF); exact rfl; exact rfl; (repeat (with_reducible (first | exact At.head _ | apply At.tail))); infer_instance; exact (Nat.le_of_ble_eq_true rfl); (simp only [List.drop_succ_cons, List.drop_zero, List.take_succ_cons, List.take_zero]; rfl); exact rfl; (simp only [Act.put, zA, zB, zC])))) | go_big_quiet_step (fail))
            refine wpQuiet_nil ?_
            intro x
            have HO := HF.own x
            clear HF
            generalize F x = w at *
            clear x F
            go_wp2_with fail
            replace HO := HO.tail
            go_roundw
            case rel => exact ⟨j + 1, _, by omega, rfl, by rw [HSj.out], by rw [HSj.out] <;> go_num, by rw [HSj.out] <;> first | (simp; done) | go_num, by go_num, HO⟩
            case measure => simp [intOf] <;> omega
        · rw [show addI n ya = (0, false) by unfold addI; rw [if_neg hin]] at HSj
          have HE := Lib.hid (HX.out (by rw [HSj]))
          have hc : (0 < ya ∧ 9223372036854775807 - ya < n) ∨ (ya < 0 ∧ n < -9223372036854775808 - ya) := by
            have : ¬ (-9223372036854775808 ≤ n + ya ∧ n + ya ≤ 9223372036854775807) := fun h => hin (inI_iff.2 h)
            omega
          clear hin HX HSj
          rcases hc with ⟨c1, c2⟩ | ⟨c1, c2⟩
          · have e1' := e1 c1
            clear e1 e2
            go_upto_region 6 with (first | go_big_skip | ((with_reducible apply wpList_loadOld1 HO); exact rfl; exact rfl; exact hlt; exact h1; infer_instance; exact rfl; (simp only [Act.put, zA, zB, zC])) | ((with_reducible apply wpList_loadOld1 HO); exact rfl; exact rfl; exact hlt; exact h2; infer_instance; exact rfl; (simp only [Act.put, zA, zB, zC])) | (first | go_big_skip | ((with_reducible apply wpList_loadAll HO); exact rfl; exact rfl; (repeat (with_reducible (first | exact At.head _ | apply At.tail))); infer_instance; exact rfl; exact rfl; (simp only [Act.put, zA, zB, zC])) | ((with_reducible apply wpList_loadOne HO); exact rfl; exact rfl; (repeat (with_reducible (first | exact At.head _ | apply At.tail))); exact rfl; infer_instance; exact rfl; (simp only [Act.put, zA, zB, zC]))) | ((with_reducible apply wpList_loadAt HO); exact rfl; exact rfl; exact (fun w' h1 => hst.out w' h1.grown); infer_instance; exact rfl; exact rfl; (simp only [Act.put, zA, zB, zC])) | (first | ((with_reducible apply wpList_boxAgg _ HO rfl); exact rfl; exact rfl; exact rfl; clear HO; intro b1 w HO; (simp only [Act.put, zA, zB, zC])) | ((with_reducible apply wpList_allocAgg _ HO rfl); exact rfl; infer_instance; exact rfl; clear HO; intro b1 w HO; (simp only [Act.put, zA, zB, zC]))) | ((with_reducible apply wpList_storeAll HO); exact rfl; exact rfl; exact rfl; (repeat (with_reducible (first | exact At.head _ | apply At.tail))); infer_instance; exact rfl; exact rfl; exact rfl; exact rfl; clear HO; intro w HO; (simp only [Act.put])))
            refine region_own HO (by kernel_rfl) (by kernel_rfl) ?_
            clear HO
            intro F HF
            repeat (first | (first | (first | go_big_quiet_skip | ((with_reducible apply wpQuiet_loadAll HF); exact rfl; exact rfl; (repeat (with_reducible (first | exact At.head _ | apply At.tail))); infer_instance; exact rfl; exact rfl; (simp only [Act.put, zA, zB, zC])) | ((with_reducible apply wpQuiet_loadOne HF); exact rfl; exact rfl; (repeat (with_reducible (first | exact At.head _ | apply At.tail))); exact rfl; infer_instance; exact rfl; (simp only [Act.put, zA, zB, zC])) | ((with_reducible apply wpQuiet_loadPart HF); exact rfl; exact rfl; (repeat (with_reducible (first | exact At.head _ | apply At.tail))); infer_instance; exact (Nat.le_of_ble_eq_true rfl); (simp only [List.drop_succ_cons, List.drop_zero, List.take_succ_cons, List.take_zero]; rfl); exact rfl; (simp only [Act.put, zA, zB, zC]))) | ((with_reducible apply wpQuiet_loadOld1 HF); exact rfl; exact rfl; exact hlt; exact h1; infer_instance; exact rfl; (simp only [Act.put, zA, zB, zC]))) | go_big_quiet_step (fail))
            refine wpQuiet_nil ?_
            intro x
            have HO := HF.own x
            clear HF
            generalize F x = w at *
            clear x F
            go_wp2_with (first | go_big_skip | (first | go_big_skip | ((with_reducible apply wpList_loadAll HO); exact rfl; exact rfl; (repeat (with_reducible (first | exact At.head _ | apply At.tail))); infer_instance; exact rfl; exact rfl; (simp only [Act.put, zA, zB, zC])) | ((with_reducible apply wpList_loadOne HO); exact rfl; exact rfl; (repeat (with_reducible (first | exact At.head _ | apply At.tail))); exact rfl; infer_instance; exact rfl; (simp only [Act.put, zA, zB, zC]))))
            go_ret3
            exact ⟨by rw [HE.out]; rfl, HO.grown⟩
          · have e2' := e2 c1
            clear e1 e2
            have c3 : ¬ (0 < ya) := by omega
            go_upto_region 6 with (first | go_big_skip | ((with_reducible apply wpList_loadOld1 HO); exact rfl; exact rfl; exact hlt; exact h1; infer_instance; exact rfl; (simp only [Act.put, zA, zB, zC])) | ((with_reducible apply wpList_loadOld1 HO); exact rfl; exact rfl; exact hlt; exact h2; infer_instance; exact rfl; (simp only [Act.put, zA, zB, zC])) | (first | go_big_skip | ((with_reducible apply wpList_loadAll HO); exact rfl; exact rfl; (repeat (with_reducible (first | exact At.head _ | apply At.tail))); infer_instance; exact rfl; exact rfl; (simp only [Act.put, zA, zB, zC])) | ((with_reducible apply wpList_loadOne HO); exact rfl; exact rfl; (repeat (with_reducible (first | exact At.head _ | apply At.tail))); exact rfl; infer_instance; exact rfl; (simp only [Act.put, zA, zB, zC]))) | ((with_reducible apply wpList_loadAt HO); exact rfl; exact rfl; exact (fun w' h1 => hst.out w' h1.grown); infer_instance; exact rfl; exact rfl; (simp only [Act.put, zA, zB, zC])) | (first | ((with_reducible apply wpList_boxAgg _ HO rfl); exact rfl; exact rfl; exact rfl; clear HO; intro b1 w HO; (simp only [Act.put, zA, zB, zC])) | ((with_reducible apply wpList_allocAgg _ HO rfl); exact rfl; infer_instance; exact rfl; clear HO; intro b1 w HO; (simp only [Act.put, zA, zB, zC]))) | ((with_reducible apply wpList_storeAll HO); exact rfl; exact rfl; exact rfl; (repeat (with_reducible (first | exact At.head _ | apply At.tail))); infer_instance; exact rfl; exact rfl; exact rfl; exact rfl; clear HO; intro w HO; (simp only [Act.put])))
            refine region_own HO (by kernel_rfl) (by kernel_rfl) ?_
            clear HO
            intro F HF
            repeat (first | (first | (first | go_big_quiet_skip | ((with_reducible apply wpQuiet_loadAll HF); exact rfl; exact rfl; (repeat (with_reducible (first | exact At.head _ | apply At.tail))); infer_instance; exact rfl; exact rfl; (simp only [Act.put, zA, zB, zC])) | ((with_reducible apply wpQuiet_loadOne HF); exact rfl; exact rfl; (repeat (with_reducible (first | exact At.head _ | apply At.tail))); exact rfl; infer_instance; exact rfl; (simp only [Act.put, zA, zB, zC])) | ((with_reducible apply wpQuiet_loadPart HF); exact rfl; exact rfl; (repeat (with_reducible (first | exact At.head _ | apply At.tail))); infer_instance; exact (Nat.le_of_ble_eq_true rfl); (simp only [List.drop_succ_cons, List.drop_zero, List.take_succ_cons, List.take_zero]; rfl); exact rfl; (simp only [Act.put, zA, zB, zC]))) | ((with_reducible apply wpQuiet_loadOld1 HF); exact rfl; exact rfl; exact hlt; exact h1; infer_instance; exact rfl; (simp only [Act.put, zA, zB, zC]))) | go_big_quiet_step (fail))
            refine wpQuiet_nil ?_
            intro x
            have HO := HF.own x
            clear HF
            generalize F x = w at *
            clear x F
            go_wp2_with (first | go_big_skip | (first | go_big_skip | ((with_reducible apply wpList_loadAll HO); exact rfl; exact rfl; (repeat (with_reducible (first | exact At.head _ | apply At.tail))); infer_instance; exact rfl; exact rfl; (simp only [Act.put, zA, zB, zC])) | ((with_reducible apply wpList_loadOne HO); exact rfl; exact rfl; (repeat (with_reducible (first | exact At.head _ | apply At.tail))); exact rfl; infer_instance; exact rfl; (simp only [Act.put, zA, zB, zC]))))
            go_ret3
            exact ⟨by rw [HE.out]; rfl, HO.grown⟩
    · obtain rfl : j = ls.length := by omega
      rw [List.take_length] at hs
      rw [← HG.out] at hs
      obtain ⟨m, n, ok⟩ := s
      simp only at hok
      subst hok
      rw [← hs] at hgv
      clear hs HS HI HM k2 HSt HG
      go_wp2_with (first | go_big_skip | ((with_reducible apply wpList_loadOld1 HO); exact rfl; exact rfl; exact hlt; exact h2; infer_instance; exact rfl; (simp only [Act.put, zA, zB, zC])))
      go_ret3
      exact ⟨by rw [← hgv.out]; rfl, HO.grown⟩

theorem run_rline_neq (p q : LineS) (w : World) : (binOp .neq 178 (.agg #[.int .i64 p.o, .int .i64 p.s, .int .i64 p.a]) (.agg #[.int .i64 q.o, .int .i64 q.s, .int .i64 q.a])).run Tryz.prog w = .ok (.bool (!decide (p = q))) w := by
  obtain ⟨a, b, c⟩ := p
  obtain ⟨a', b', c'⟩ := q
  go_simp
  (repeat' split) <;> simp_all

set_option maxHeartbeats 8000000 in
set_option maxRecDepth 100000 in
theorem same30_any {W : World} {v u : Value} {l : List LineS} (h : IsL W 3 v (l.map lineC)) (h' : IsL W 3 u (l.map lineC)) : Calls Tryz.prog 34 #[v, u] W fun e w' => e = .returned (.bool true) ∧ Below W.heap.size W w' := by
  have HH := Lib.hid h
  have HH' := Lib.hid h'
  obtain ⟨sp, sc, rfl, hmx⟩ := h.slice
  obtain ⟨tp, tc, rfl, -⟩ := h'.slice
  rw [List.length_map] at hmx HH HH' ⊢
  have hmx' : (l.length : Int) ≤ 9223372036854775807 := by unfold maxLen at hmx; omega
  have HO := Own.start W
  clear h h'
  go_enter Tryz.func34, Tryz.ntmps34
  go_wp2_with fail
  go_loopw [5] (fun i wr => ∃ j : Nat, j ≤ l.length ∧ i = .int .i64 (j : Int) ∧ Own W wr []) (fun i _ => l.length - (intOf i).toNat)
  case atStart => exact ⟨0, by omega, rfl, HO⟩
  case round =>
    clear HO
    obtain ⟨j, hj, rfl, HO⟩ := hrel
    by_cases hjl : j < l.length
    · have hjI : (j : Int) < (l.length : Int) := by omega
      obtain ⟨a, rfl, hst⟩ := oldAt HH.out rfl hjl
      obtain ⟨a2, rfl, hst2⟩ := oldAt HH'.out rfl hjl
      replace hst := Lib.hid hst
      replace hst2 := Lib.hid hst2
      have hEq : ∀ w, _ := fun w => run_rline_neq l[j] l[j] w
      simp only [decide_true, Bool.not_true] at hEq
      generalize l[j] = p at *
      obtain ⟨pi, po, pd⟩ := p
      simp only [lineC] at hst hst2 hEq
      go_upto_region 6 with (first | (first | go_big_skip | ((with_reducible apply wpList_loadAll HO); exact rfl; exact rfl; (repeat (with_reducible (first | exact At.head _ | apply At.tail))); infer_instance; exact rfl; exact rfl; (simp only [Act.put, zA, zB, zC])) | ((with_reducible apply wpList_loadOne HO); exact rfl; exact rfl; (repeat (with_reducible (first | exact At.head _ | apply At.tail))); exact rfl; infer_instance; exact rfl; (simp only [Act.put, zA, zB, zC]))))
      refine region_own HO (by kernel_rfl) (by kernel_rfl) ?_
      clear HO
      intro F HF
      repeat (first | (first | (first | go_big_quiet_skip | ((with_reducible apply wpQuiet_loadAll HF); exact rfl; exact rfl; (repeat (with_reducible (first | exact At.head _ | apply At.tail))); infer_instance; exact rfl; exact rfl; (simp only [Act.put, zA, zB, zC])) | ((with_reducible apply wpQuiet_loadOne HF); exact rfl; exact rfl; (repeat (with_reducible (first | exact At.head _ | apply At.tail))); exact rfl; infer_instance; exact rfl; (simp only [Act.put, zA, zB, zC])) | ((with_reducible apply wpQuiet_loadPart HF); exact rfl; exact rfl; (repeat (with_reducible (first | exact At.head _ | apply At.tail))); infer_instance; exact (Nat.le_of_ble_eq_true rfl); (simp only [List.drop_succ_cons, List.drop_zero, List.take_succ_cons, List.take_zero]; rfl); exact rfl; (simp only [Act.put, zA, zB, zC]))) | ((with_reducible apply wpQuiet_loadAt HF); exact rfl; exact rfl; exact (fun w' h1 => hst.out w' h1.grown); infer_instance; exact rfl; exact rfl; (simp only [Act.put, zA, zB, zC])) | ((with_reducible apply wpQuiet_loadAt HF); exact rfl; exact rfl; exact (fun w' h1 => hst2.out w' h1.grown); infer_instance; exact rfl; exact rfl; (simp only [Act.put, zA, zB, zC]))) | go_big_quiet_step (fail))
      refine wpQuiet_nil ?_
      intro x
      have HO := HF.own x
      clear HF
      generalize F x = w at *
      clear x F
      go_wp2_with (first | (first | go_big_skip | ((with_reducible apply wpList_loadAll HO); exact rfl; exact rfl; (repeat (with_reducible (first | exact At.head _ | apply At.tail))); infer_instance; exact rfl; exact rfl; (simp only [Act.put, zA, zB, zC])) | ((with_reducible apply wpList_loadOne HO); exact rfl; exact rfl; (repeat (with_reducible (first | exact At.head _ | apply At.tail))); exact rfl; infer_instance; exact rfl; (simp only [Act.put, zA, zB, zC]))))
      go_roundw
      case rel => exact ⟨j + 1, by omega, by go_num, HO⟩
      case measure => simp [intOf] <;> omega
    · obtain rfl : j = l.length := by omega
      go_wp2_with fail
      go_ret
      exact ⟨rfl, HO.grown⟩
end Go.Proofs.YtibabfedpdoofaaGreatDoor

/-
  Since when orders have suspense, by walking the program's text; conditions: int64 numbers.
  How much is old, by walking the program's text; conditions: int64 numbers.
  The document's aging, and its core's balances, by walking its text; conditions: the core is one that entries come to, int64 numbers.
-/
import Derived.Lib.SliceRun
import Derived.BigGuardPart
import Derived.OwnWalk
import Derived.Test.YtibabfedpdoofaaGreatDoorQa1
import Derived.Test.YtibabfedpdoofaaGreatDoorQa10
import Derived.Test.YtibabfedpdoofaaGreatDoorQa13
namespace Go.Proofs.YtibabfedpdoofaaGreatDoor
open Go.RowKit Go.Own Go.Maps

structure LineS where
  o : Int
  s : Int
  a : Int
deriving DecidableEq
def lineC (x : LineS) : List Value := [.int .i64 x.o, .int .i64 x.s, .int .i64 x.a]
theorem lineC_len (l : List LineS) : ∀ x ∈ l.map lineC, x.length = 3 := fun x hx => by
  obtain ⟨y, _, rfl⟩ := List.mem_map.1 hx
  rfl
theorem lineC_one (l : List LineS) : ∀ u ∈ (l.map lineC).flatten, u.oneCell' = true := by
  intro u hu
  obtain ⟨x, hx, hu⟩ := List.mem_flatten.1 hu
  obtain ⟨p, _, rfl⟩ := List.mem_map.1 hx
  simp only [lineC, List.mem_cons, List.not_mem_nil, or_false] at hu
  rcases hu with rfl | rfl | rfl <;> rfl
def agC (now : Int) (v : Value) : List Value := [.bool true, .int .i64 now, v]
/-- An aging in a world. -/
structure AgAt (w : World) (g : Nat) (now : Int) (v : Value) (ls : List LineS) : Prop where
  box : w.heap[g]? = some (.cells (agC now v).toArray 162)
  row : IsL w 3 v (ls.map lineC)
theorem AgAt.below {w w' : World} {g : Nat} {now : Int} {v : Value} {ls : List LineS} (h : AgAt w g now v ls) (hb : Below w.heap.size w w') : AgAt w' g now v ls :=
  ⟨by rw [hb.block _ (old_lt h.box)]; exact h.box, h.row.below hb h.row.lt⟩
def agPs (g : Nat) (now : Int) (v : Value) (ls : List LineS) : List Ent := [box g (.cells (agC now v).toArray 162), row 158 3 v (ls.map lineC)]
theorem Own.agAt {W w : World} {L : List Ent} {g : Nat} {now : Int} {v : Value} {ls : List LineS} (h : Own W w L) (h1 : Go.Own.box g (.cells (agC now v).toArray 162) ∈ L) (h2 : Go.Own.row 158 3 v (ls.map lineC) ∈ L) : AgAt w g now v ls :=
  ⟨h.has _ h1, isL_of_owns (lineC_len _) (h.has _ h2)⟩

set_option maxHeartbeats 4000000 in
theorem agNew_any (W : World) : Calls Tryz.prog 24 #[] W fun e w' => ∃ g, e = .returned (.pointer (some ⟨g, 0, none⟩)) ∧ Own W w' (agPs g 0 (.slice none 0 0) []) := by
  have HO := Own.start W
  go_enter Tryz.func24, Tryz.ntmps24
  go_wp2_with (first | (first | ((with_reducible apply wpList_boxAgg _ HO rfl); exact rfl; exact rfl; exact rfl; clear HO; intro b1 w HO; (simp only [Act.put, zA, zB, zC])) | ((with_reducible apply wpList_allocAgg _ HO rfl); exact rfl; infer_instance; exact rfl; clear HO; intro b1 w HO; (simp only [Act.put, zA, zB, zC]))) | go_big_skip)
  go_ret
  exact ⟨b1, rfl, (HO.nil 158 3).perm (List.Perm.swap _ _ _)⟩

set_option maxHeartbeats 4000000 in
theorem agNone_any {w : World} {g : Nat} {cs : List Value} {b : Bool} (h : w.heap[g]? = some (.cells (.bool b :: cs).toArray 162)) : Calls Tryz.prog 93 #[.pointer (some ⟨g, 0, none⟩)] w fun e w' => e = .returned (.bool (!b)) ∧ Below w.heap.size w w' := by
  have HO := Own.start w
  have h1 := old_cell h 0 rfl
  have hlt := old_lt h
  clear h
  go_enter Tryz.func93, Tryz.ntmps93
  go_wp2_with (first | go_big_skip | ((with_reducible apply wpList_loadOld1 HO); exact rfl; exact rfl; exact hlt; exact h1; infer_instance; exact rfl; (simp only [Act.put, zA, zB, zC])))
  go_ret
  exact ⟨rfl, HO.grown⟩

theorem find_at {α : Type} {f : α → Bool} {l : List α} {j : Nat} (hj : j < l.length) (h : (l.take j).find? f = none) (hp : f l[j] = true) : l.find? f = some l[j] := by
  have h1 : l.find? f = (l.take j ++ l.drop j).find? f := by rw [List.take_append_drop]
  rw [h1, List.find?_append, h, Option.none_or, List.drop_eq_getElem_cons hj, List.find?_cons_of_pos hp]
def sinceOf (ls : List LineS) (now id : Int) : Int := match ls.find? (fun x => decide (x.o = id)) with
  | some x => x.s
  | none => now

set_option maxHeartbeats 8000000 in
set_option maxRecDepth 100000 in
theorem agSince_any {w : World} {g : Nat} {now : Int} {v : Value} {ls : List LineS} (h : AgAt w g now v ls) (id : Int) : Calls Tryz.prog 94 #[.pointer (some ⟨g, 0, none⟩), .int .i64 id] w fun e w' => e = .returned (.int .i64 (sinceOf ls now id)) ∧ Below w.heap.size w w' := by
  have HO := Own.start w
  obtain ⟨p, c, hv, hmx⟩ := h.row.slice
  rw [List.length_map] at hv hmx
  have HR := Lib.hid h.row
  have h1 := old_cell h.box 1 rfl
  have h2 := old_cell h.box 2 rfl
  have hlt := old_lt h.box
  have hmx' : (ls.length : Int) ≤ 9223372036854775807 := by unfold maxLen at hmx; omega
  subst hv
  clear h
  generalize hg : sinceOf ls now id = g0
  replace hg := Lib.hid hg
  go_enter Tryz.func94, Tryz.ntmps94
  go_wp2_with (first | go_big_skip | ((with_reducible apply wpList_loadOld1 HO); exact rfl; exact rfl; exact hlt; exact h2; infer_instance; exact rfl; (simp only [Act.put, zA, zB, zC])))
  go_loopw [12] (fun i wr => ∃ j : Nat, j ≤ ls.length ∧ i = .int .i64 (j : Int) ∧ (ls.take j).find? (fun x => decide (x.o = id)) = none ∧ Own w wr []) (fun i _ => ls.length - (intOf i).toNat)
  case atStart => exact ⟨0, by omega, rfl, rfl, HO⟩
  case round =>
    clear HO
    obtain ⟨j, hj, rfl, hnf, HO⟩ := hrel
    by_cases hjl : j < ls.length
    · have hjI : (j : Int) < (ls.length : Int) := by omega
      obtain ⟨b, rfl, hst⟩ := oldAt HR.out rfl hjl
      have HX := Lib.hid (show ls[j].o ≠ id → (ls.take (j + 1)).find? (fun x => decide (x.o = id)) = none from fun hx => by
        rw [List.take_succ_eq_append_getElem hjl, List.find?_append, hnf]
        simpa using hx)
      have HY := Lib.hid (show ls[j].o = id → sinceOf ls now id = ls[j].s from fun hx => by
        unfold sinceOf
        rw [find_at hjl hnf (by simpa using hx)])
      clear hnf
      generalize ls[j] = y at *
      obtain ⟨yo, ys, ya⟩ := y
      unfold lineC at hst
      replace hst := Lib.hid hst
      simp only at HX HY
      by_cases hz : yo = id
      · obtain rfl := hg.out.symm.trans (HY.out hz)
        clear HX HY
        go_wp2_with (first | (first | go_big_skip | ((with_reducible apply wpList_loadAll HO); exact rfl; exact rfl; (repeat (with_reducible (first | exact At.head _ | apply At.tail))); infer_instance; exact rfl; exact rfl; (simp only [Act.put, zA, zB, zC])) | ((with_reducible apply wpList_loadOne HO); exact rfl; exact rfl; (repeat (with_reducible (first | exact At.head _ | apply At.tail))); exact rfl; infer_instance; exact rfl; (simp only [Act.put, zA, zB, zC]))) | ((with_reducible apply wpList_loadAt HO); exact rfl; exact rfl; exact (fun w' h1 => hst.out w' h1.grown); infer_instance; exact rfl; exact rfl; (simp only [Act.put, zA, zB, zC])) | (first | ((with_reducible apply wpList_boxAgg _ HO rfl); exact rfl; exact rfl; exact rfl; clear HO; intro b1 w HO; (simp only [Act.put, zA, zB, zC])) | ((with_reducible apply wpList_allocAgg _ HO rfl); exact rfl; infer_instance; exact rfl; clear HO; intro b1 w HO; (simp only [Act.put, zA, zB, zC]))) | ((with_reducible apply wpList_storeAll HO); exact rfl; exact rfl; exact rfl; (repeat (with_reducible (first | exact At.head _ | apply At.tail))); infer_instance; exact rfl; exact rfl; exact rfl; exact rfl; clear HO; intro w HO; (simp only [Act.put])))
        go_ret
        exact ⟨rfl, HO.grown⟩
      · have HZ := Lib.hid (HX.out hz)
        clear HX HY
        go_wp2_with (first | (first | go_big_skip | ((with_reducible apply wpList_loadAll HO); exact rfl; exact rfl; (repeat (with_reducible (first | exact At.head _ | apply At.tail))); infer_instance; exact rfl; exact rfl; (simp only [Act.put, zA, zB, zC])) | ((with_reducible apply wpList_loadOne HO); exact rfl; exact rfl; (repeat (with_reducible (first | exact At.head _ | apply At.tail))); exact rfl; infer_instance; exact rfl; (simp only [Act.put, zA, zB, zC]))) | ((with_reducible apply wpList_loadAt HO); exact rfl; exact rfl; exact (fun w' h1 => hst.out w' h1.grown); infer_instance; exact rfl; exact rfl; (simp only [Act.put, zA, zB, zC])) | (first | ((with_reducible apply wpList_boxAgg _ HO rfl); exact rfl; exact rfl; exact rfl; clear HO; intro b1 w HO; (simp only [Act.put, zA, zB, zC])) | ((with_reducible apply wpList_allocAgg _ HO rfl); exact rfl; infer_instance; exact rfl; clear HO; intro b1 w HO; (simp only [Act.put, zA, zB, zC]))) | ((with_reducible apply wpList_storeAll HO); exact rfl; exact rfl; exact rfl; (repeat (with_reducible (first | exact At.head _ | apply At.tail))); infer_instance; exact rfl; exact rfl; exact rfl; exact rfl; clear HO; intro w HO; (simp only [Act.put])))
        replace HO := HO.tail
        go_roundw
        case rel => exact ⟨j + 1, by omega, by go_num, HZ.out, HO⟩
        case measure => simp [intOf] <;> omega
    · obtain rfl : j = ls.length := by omega
      rw [List.take_length] at hnf
      obtain rfl : g0 = now := hg.out.symm.trans (by unfold sinceOf; rw [hnf])
      clear hnf
      go_wp2_with (first | go_big_skip | ((with_reducible apply wpList_loadOld1 HO); exact rfl; exact rfl; exact hlt; exact h1; infer_instance; exact rfl; (simp only [Act.put, zA, zB, zC])))
      go_ret
      exact ⟨rfl, HO.grown⟩

set_option maxHeartbeats 8000000 in
set_option maxRecDepth 100000 in
theorem lClone_any {W : World} {v : Value} {l : List LineS} (h : IsL W 3 v (l.map lineC)) (hnil : ∀ n c, v = .slice none n c → n = 0) (hlen : l.length ≤ 100000) : Calls Tryz.prog 96 #[v] W fun e w' => ∃ v', e = .returned v' ∧ Own W w' [row 158 3 v' (l.map lineC)] := by
  have HO := Own.start W
  have HH := Lib.hid (fun (w' : World) (L : List Ent) (hO : Own W w' L) => h.below hO.grown h.lt)
  have HL := Lib.hid (lineC_len l)
  have H1 := Lib.hid (lineC_one l)
  have hlen1 : ([] : List (List Value)).length + (l.map lineC).length ≤ 1000000 := by rw [List.length_map]; simp; omega
  obtain ⟨sp, sc, rfl, -⟩ := h.slice
  rw [List.length_map] at HH hnil ⊢
  clear h
  cases sp with
  | none =>
    have h0 : l.length = 0 := hnil _ _ rfl
    obtain rfl : l = [] := List.length_eq_zero_iff.1 h0
    replace HO := HO.nil 158 3
    have hq := fun w => Lib.run_eql_slice_nil (P := Tryz.prog) w _ _ (none : Option Addr) 0 sc 0 0 Tryz.underlying67
    clear h0 hnil
    go_enter Tryz.func96, Tryz.ntmps96
    go_wp2_with fail
    go_ret
    exact ⟨_, rfl, HO⟩
  | some a =>
    have hq := fun w => Lib.run_eql_slice_nil (P := Tryz.prog) w _ _ (some a) l.length sc 0 0 Tryz.underlying67
    clear hnil
    go_enter Tryz.func96, Tryz.ntmps96
    go_wp2_with (first | ((with_reducible apply wpList_lit0 (k := 3) HO); exact rfl; infer_instance; infer_instance; exact rfl; clear HO; intro bl w HO; (simp only [Act.put, zA, zB, zC])) | ((with_reducible apply wpList_appendAll HO); exact rfl; infer_instance; infer_instance; (first | (simp [Act.eval]; rfl) | exact rfl); exact rfl; exact (HH.out _ _ HO); exact HL.out; exact H1.out; intro _; (repeat (with_reducible (first | exact At.head _ | apply At.tail))); (first | omega | (simp; omega)); decide; exact rfl; clear HO; intro v2 w HO hv2; (simp only [Act.put, zA, zB, zC])) | go_big_skip)
    go_ret
    exact ⟨_, rfl, by simpa using HO⟩
def rowNil (v : Value) : Prop := ∀ n c, v = .slice none n c → n = 0
theorem rowNil_of {w : World} {t k : Nat} {v : Value} {L : List (List Value)} (h : w.ownsRow 0 t k v L.length L.flatten) : rowNil v := by
  intro n c hv
  rcases h.2 with ⟨rfl, _⟩ | ⟨g, cap, cur, rfl, _⟩
  · cases hv; rfl
  · cases hv

set_option maxHeartbeats 4000000 in
theorem agLines_any {w : World} {g : Nat} {now : Int} {v : Value} {ls : List LineS} (h : AgAt w g now v ls) (hn : rowNil v) (hlen : ls.length ≤ 100000) : Calls Tryz.prog 35 #[.pointer (some ⟨g, 0, none⟩)] w fun e w' => ∃ v', e = .returned v' ∧ Own w w' [row 158 3 v' (ls.map lineC)] := by
  have HO := Own.start w
  have N := fun w' (hb : Below w.heap.size w w') => agNone_any (b := true) (h.below hb).box
  have C := fun w' (hb : Below w.heap.size w w') => lClone_any (h.below hb).row hn hlen
  have h2 := old_cell h.box 2 rfl
  have hlt := old_lt h.box
  clear h
  go_enter Tryz.func35, Tryz.ntmps35
  go_wp2_with (first | go_big_skip | ((with_reducible apply wpList_loadOld1 HO); exact rfl; exact rfl; exact hlt; exact h2; infer_instance; exact rfl; (simp only [Act.put, zA, zB, zC])) | (go_at_call 93; go_must ((with_reducible refine (N _ HO.grown).mono ?_); rintro e w ⟨rfl, hb⟩; replace HO := HO.call hb; clear hb)) | (go_at_call 96; go_must ((with_reducible refine (C _ HO.grown).mono ?_); rintro e w ⟨v9, rfl, HO1⟩; replace HO := HO.lift HO1; clear HO1; simp only [List.cons_append, List.nil_append] at HO)))
  go_ret
  exact ⟨_, rfl, HO⟩

def seeN (now t : Int) : Int := max now (min t 1099511627776)
def seeL (ls : List LineS) (now : Int) (P : List Pst) : Nat → List LineS
  | 0 => []
  | k + 1 => seeL ls now P k ++ (if bal P 1 ((k : Int) + 1) = 0 then [] else [⟨(k : Int) + 1, sinceOf ls now ((k : Int) + 1), bal P 1 ((k : Int) + 1)⟩])

theorem seeL_len (ls : List LineS) (now : Int) (P : List Pst) : ∀ k, (seeL ls now P k).length ≤ k
  | 0 => by simp [seeL]
  | k + 1 => by
    have := seeL_len ls now P k
    unfold seeL
    rw [List.length_append]
    split <;> simp <;> omega

set_option maxHeartbeats 16000000 in
set_option maxRecDepth 100000 in
theorem agSee_any {W w : World} {M : List Ent} {g : Nat} {now : Int} {v : Value} {ls : List LineS} {a : CoA} {S : CoS} {i : InA} {A : InS} (t : Int) (HO : Own W w (agPs g now v ls ++ M)) (HC : ∀ (w' : World) (L' : List Ent), Own W w' L' → (∀ e ∈ M, e ∈ L') → CoAt w' a S i A) (hlen : S.L.length ≤ 60) :
    Calls Tryz.prog 30 #[.pointer (some ⟨g, 0, none⟩), .int .i64 t, .pointer (some ⟨a.c, 0, none⟩)] w fun e w' => ∃ v', e = .returned (.tuple #[]) ∧ Own W w' (agPs g (seeN now t) v' (seeL ls (seeN now t) S.P S.L.length) ++ M) := by
  have N := fun (w : World) (L : List Ent) (h : Own W w L) (h1 : box g (.cells (agC now v).toArray 162) ∈ L) => agNone_any (b := true) (cs := [.int .i64 now, v]) (h.has _ h1)
  unfold agPs at HO
  simp only [List.cons_append, List.nil_append, agC] at HO N
  go_enter Tryz.func30, Tryz.ntmps30
  go_wp2_with (first | go_big_skip | (first | go_big_skip | ((with_reducible apply wpList_loadAll HO); exact rfl; exact rfl; (repeat (with_reducible (first | exact At.head _ | apply At.tail))); infer_instance; exact rfl; exact rfl; (simp only [Act.put, zA, zB, zC])) | ((with_reducible apply wpList_loadOne HO); exact rfl; exact rfl; (repeat (with_reducible (first | exact At.head _ | apply At.tail))); exact rfl; infer_instance; exact rfl; (simp only [Act.put, zA, zB, zC]))) | ((with_reducible apply wpList_storeOne HO); exact rfl; exact rfl; (first | (simp [Act.eval]; rfl) | exact rfl); exact rfl; (repeat (with_reducible (first | exact At.head _ | apply At.tail))); infer_instance; exact (by simp); (simp only [List.set_cons_succ, List.set_cons_zero]; rfl); exact rfl; clear HO; intro w HO; (simp only [Act.put])) | (first | ((with_reducible apply wpList_boxAgg _ HO rfl); exact rfl; exact rfl; exact rfl; clear HO; intro b1 w HO; (simp only [Act.put, zA, zB, zC])) | ((with_reducible apply wpList_allocAgg _ HO rfl); exact rfl; infer_instance; exact rfl; clear HO; intro b1 w HO; (simp only [Act.put, zA, zB, zC]))) | (go_at_call 93; go_must ((with_reducible refine (N _ _ HO (by repeat (first | exact List.mem_cons_self | apply List.mem_cons_of_mem))).mono ?_); rintro e w ⟨rfl, hb⟩; replace HO := HO.call hb; clear hb)))
  have HNI := Lib.hid (rfl : seeN now t = max now (min t 1099511627776))
  have hn1 : (max now (min t 1099511627776)) = seeN now t := HNI.out.symm
  rw [hn1] at HO
  generalize hnw : seeN now t = nw at *
  clear HNI hn1
  have N' := fun (w : World) (L : List Ent) (h : Own W w L) (h1 : box g (.cells (agC nw v).toArray 162) ∈ L) (h2 : row 158 3 v (ls.map lineC) ∈ L) (id : Int) => agSince_any (Own.agAt h h1 h2) id
  simp only [agC] at N'
  have HN := Lib.hid N'
  have OC := Lib.hid (fun (w : World) (L : List Ent) (h : Own W w L) (hm : ∀ e ∈ M, e ∈ L) => coOrders_any (HC w L h hm))
  have BC := Lib.hid (fun (w : World) (L : List Ent) (h : Own W w L) (hm : ∀ e ∈ M, e ∈ L) (k : Nat) (hk : k < 60) => coBal_any (HC w L h hm) (n := 1) (o := (k : Int) + 1) rfl (inI_iff.2 (by omega)))
  have HL := Lib.hid (fun k => show seeL ls nw S.P (k + 1) = seeL ls nw S.P k ++ (if bal S.P 1 ((k : Int) + 1) = 0 then [] else [⟨(k : Int) + 1, sinceOf ls nw ((k : Int) + 1), bal S.P 1 ((k : Int) + 1)⟩]) from rfl)
  have hsl := Lib.hid (seeL_len ls nw S.P)
  clear HC N N'
  replace HO := HO.nil 158 3
  go_loopw [6, 7] (fun vl iv wr => ∃ k : Nat, k ≤ S.L.length ∧ iv = .int .i64 ((k : Int) + 1) ∧ Own W wr (row 158 3 vl ((seeL ls nw S.P k).map lineC) :: box g (.cells #[.bool true, .int .i64 nw, v] 162) :: row 158 3 v (ls.map lineC) :: M)) (fun _ iv _ => 62 - (intOf iv).toNat)
  case atStart => exact ⟨0, by omega, rfl, HO⟩
  case round =>
    clear HO
    obtain ⟨k, hk, rfl, HO⟩ := hrel
    by_cases hkl : k < S.L.length
    · have hkI : (k : Int) + 1 ≤ (S.L.length : Int) := by omega
      have hk60 : k < 60 := by omega
      have HLk := Lib.hid (HL.out k)
      have hsk := hsl.out k
      have BCk := Lib.hid (fun w L h hm => BC.out w L h hm k hk60)
      have HNk := Lib.hid (fun w L h h1 h2 => HN.out w L h h1 h2 ((k : Int) + 1))
      clear HL hsl BC HN
      generalize bal S.P 1 ((k : Int) + 1) = bk at *
      generalize sinceOf ls nw ((k : Int) + 1) = sk at *
      generalize hnl : seeL ls nw S.P (k + 1) = nl at *
      generalize seeL ls nw S.P k = ol at *
      by_cases hb : bk = 0
      · rw [if_pos hb, List.append_nil] at HLk
        obtain rfl := HLk.out
        go_wp2_with (first | go_big_skip | (go_at_call 15; go_must ((with_reducible refine (OC.out _ _ HO (by intro e he; repeat (first | exact he | apply List.mem_cons_of_mem))).mono ?_); rintro e w ⟨rfl, hb⟩; replace HO := HO.call hb; clear hb)) | (go_at_call 50; go_must ((with_reducible refine (BCk.out _ _ HO (by intro e he; repeat (first | exact he | apply List.mem_cons_of_mem))).mono ?_); rintro e w ⟨rfl, hb⟩; replace HO := HO.call hb; clear hb)))
        go_roundw
        case rel => exact ⟨k + 1, by omega, by go_num, by rw [hnl]; exact HO⟩
        case measure => simp [intOf] <;> omega
      · rw [if_neg hb] at HLk
        obtain rfl := HLk.out
        have hll : (ol.map lineC).length + 1 ≤ 1000000 := by rw [List.length_map]; omega
        go_wp2_with (first | go_big_skip | (go_at_call 15; go_must ((with_reducible refine (OC.out _ _ HO (by intro e he; repeat (first | exact he | apply List.mem_cons_of_mem))).mono ?_); rintro e w ⟨rfl, hb⟩; replace HO := HO.call hb; clear hb)) | (go_at_call 50; go_must ((with_reducible refine (BCk.out _ _ HO (by intro e he; repeat (first | exact he | apply List.mem_cons_of_mem))).mono ?_); rintro e w ⟨rfl, hb⟩; replace HO := HO.call hb; clear hb)) | (go_at_call 94; go_must ((with_reducible refine (HNk.out _ _ HO (by repeat (first | exact List.mem_cons_self | apply List.mem_cons_of_mem)) (by repeat (first | exact List.mem_cons_self | apply List.mem_cons_of_mem))).mono ?_); rintro e w ⟨rfl, hb⟩; replace HO := HO.call hb; clear hb)) | (first | ((with_reducible apply wpList_lit1 HO); exact rfl; infer_instance; infer_instance; exact rfl; exact rfl; exact (by decide); exact rfl; clear HO; intro bl w HO; (simp only [Act.put, zA, zB, zC])) | ((with_reducible apply wpList_lit1c HO); exact rfl; infer_instance; infer_instance; (first | (simp [Act.eval]; rfl) | exact rfl); exact rfl; exact rfl; clear HO; intro bl w HO; (simp only [Act.put, zA, zB, zC]))) | ((with_reducible apply wpList_push1 HO); exact rfl; infer_instance; infer_instance; (first | (simp [Act.eval]; rfl) | exact rfl); exact rfl; intro _; (repeat (with_reducible (first | exact At.head _ | apply At.tail))); exact rfl; exact rfl; (first | omega | (simp; omega)); decide; exact rfl; clear HO; intro v2 w HO hv2; (simp only [Act.put, zA, zB, zC])))
        go_roundw
        case rel => exact ⟨k + 1, by omega, by go_num, by rw [hnl, List.map_append]; exact HO⟩
        case measure => simp [intOf] <;> omega
    · have hk' : k = S.L.length := by omega
      have hkI : ¬ ((k : Int) + 1 ≤ (S.L.length : Int)) := by omega
      rw [hk'] at HO
      obtain ⟨⟨p9, c9, rfl⟩, -⟩ := HO.rowForm (.head _)
      rw [List.length_map] at HO
      generalize hnl : seeL ls nw S.P S.L.length = nl at *
      go_wp2_with (first | go_big_skip | (first | go_big_skip | ((with_reducible apply wpList_loadAll HO); exact rfl; exact rfl; (repeat (with_reducible (first | exact At.head _ | apply At.tail))); infer_instance; exact rfl; exact rfl; (simp only [Act.put, zA, zB, zC])) | ((with_reducible apply wpList_loadOne HO); exact rfl; exact rfl; (repeat (with_reducible (first | exact At.head _ | apply At.tail))); exact rfl; infer_instance; exact rfl; (simp only [Act.put, zA, zB, zC]))) | ((with_reducible apply wpList_storeOne HO); exact rfl; exact rfl; (first | (simp [Act.eval]; rfl) | exact rfl); exact rfl; (repeat (with_reducible (first | exact At.head _ | apply At.tail))); infer_instance; exact (by simp); (simp only [List.set_cons_succ, List.set_cons_zero]; rfl); exact rfl; clear HO; intro w HO; (simp only [Act.put])) | (go_at_call 15; go_must ((with_reducible refine (OC.out _ _ HO (by intro e he; repeat (first | exact he | apply List.mem_cons_of_mem))).mono ?_); rintro e w ⟨rfl, hb⟩; replace HO := HO.call hb; clear hb)))
      go_end0
      subst hnl
      subst hnw
      exact ⟨_, rfl, (HO.sub (by exact .cons_cons _ (.cons_cons _ (.cons _ (List.Sublist.refl _))))).perm (List.Perm.swap _ _ _)⟩
end Go.Proofs.YtibabfedpdoofaaGreatDoor
namespace Go.Proofs.YtibabfedpdoofaaGreatDoor
open Go.RowKit Go.Own Go.Maps

def oldStep (now least : Int) (s : Int × Int × Bool) (x : LineS) : Int × Int × Bool := if s.2.2 = true ∧ least ≤ now - x.s then (s.1 + 1, (addI s.2.1 x.a).1, (addI s.2.1 x.a).2) else s
def oldL (ls : List LineS) (now least : Int) : Int × Int × Bool := ls.foldl (oldStep now least) (0, 0, true)
def oldV (s : Int × Int × Bool) : Value := if s.2.2 = true then .tuple #[.int .i64 s.1, .int .i64 s.2.1, .bool true] else .tuple #[.int .i64 0, .int .i64 0, .bool false]
/-- Lines as an aging has them. -/
def LinesOk (now : Int) (ls : List LineS) : Prop := 0 ≤ now ∧ now ≤ 1099511627776 ∧ ∀ x ∈ ls, 0 ≤ x.s ∧ x.s ≤ 1099511627776 ∧ inI x.a = true
theorem oldStep_ok (now least : Int) {s : Int × Int × Bool} (x : LineS) (h : inI s.2.1 = true) : inI (oldStep now least s x).2.1 = true := by
  unfold oldStep
  split
  · show inI (addI _ _).1 = true
    unfold addI
    split
    · assumption
    · rfl
  · exact h
theorem oldFold_ok (now least : Int) : ∀ (ls : List LineS) {s : Int × Int × Bool}, inI s.2.1 = true → inI (ls.foldl (oldStep now least) s).2.1 = true
  | [], _, h => h
  | x :: l, _, h => oldFold_ok now least l (oldStep_ok now least x h)
theorem oldFold_many (now least : Int) : ∀ (ls : List LineS) {s : Int × Int × Bool}, 0 ≤ s.1 → 0 ≤ (ls.foldl (oldStep now least) s).1 ∧ (ls.foldl (oldStep now least) s).1 ≤ s.1 + ls.length
  | [], _, h => ⟨h, by simp⟩
  | x :: l, s, h => by
    have h1 : 0 ≤ (oldStep now least s x).1 ∧ (oldStep now least s x).1 ≤ s.1 + 1 := by
      unfold oldStep
      split
      · exact ⟨by show 0 ≤ s.1 + 1; omega, Int.le_refl _⟩
      · omega
    have := oldFold_many now least l h1.1
    simp only [List.foldl_cons, List.length_cons]
    omega

set_option maxHeartbeats 16000000 in
set_option maxRecDepth 100000 in
theorem agOld_any {W : World} {g : Nat} {now : Int} {v : Value} {ls : List LineS} (h : AgAt W g now v ls) (hk : LinesOk now ls) (least : Int) (hl : ls.length ≤ 100000) : Calls Tryz.prog 32 #[.pointer (some ⟨g, 0, none⟩), .int .i64 least] W fun e w' => e = .returned (oldV (oldL ls now least)) ∧ Below W.heap.size W w' := by
  have HO := Own.start W
  obtain ⟨p, c, hv, hmx⟩ := h.row.slice
  rw [List.length_map] at hv hmx
  have HR := Lib.hid h.row
  have N := fun w' (hb : Below W.heap.size W w') => agNone_any (b := true) (h.below hb).box
  have h1 := old_cell h.box 1 rfl
  have h2 := old_cell h.box 2 rfl
  have hlt := old_lt h.box
  have hmx' : (ls.length : Int) ≤ 100000 := by omega
  subst hv
  clear h
  generalize hg : oldL ls now least = g0
  replace hg := Lib.hid hg
  go_enter Tryz.func32, Tryz.ntmps32
  go_wp2_with (first | go_big_skip | ((with_reducible apply wpList_loadOld1 HO); exact rfl; exact rfl; exact hlt; exact h1; infer_instance; exact rfl; (simp only [Act.put, zA, zB, zC])) | ((with_reducible apply wpList_loadOld1 HO); exact rfl; exact rfl; exact hlt; exact h2; infer_instance; exact rfl; (simp only [Act.put, zA, zB, zC])) | (go_at_call 93; go_must ((with_reducible refine (N _ HO.grown).mono ?_); rintro e w ⟨rfl, hb⟩; replace HO := HO.call hb; clear hb)))
  have HS := Lib.hid (fun (j : Nat) (hj : j < ls.length) => show (ls.take (j + 1)).foldl (oldStep now least) (0, 0, true) = oldStep now least ((ls.take j).foldl (oldStep now least) (0, 0, true)) ls[j] from by rw [List.take_succ_eq_append_getElem hj, List.foldl_append]; rfl)
  have HI := Lib.hid (fun (j : Nat) => oldFold_ok now least (ls.take j) (s := (0, 0, true)) rfl)
  have HM := Lib.hid (fun (j : Nat) => oldFold_many now least (ls.take j) (s := (0, 0, true)) (Int.le_refl _))
  obtain ⟨k0, k1, k2⟩ := hk
  replace k2 := Lib.hid k2
  go_loopw [4, 5, 6, 16] (fun m n ok iv wr => ∃ (j : Nat) (s : Int × Int × Bool), j ≤ ls.length ∧ s = (ls.take j).foldl (oldStep now least) (0, 0, true) ∧ m = .int .i64 s.1 ∧ n = .int .i64 s.2.1 ∧ ok = .bool s.2.2 ∧ iv = .int .i64 (j : Int) ∧ Own W wr []) (fun _ _ _ iv _ => ls.length - (intOf iv).toNat)
  case atStart => exact ⟨0, _, by omega, rfl, rfl, rfl, rfl, rfl, HO⟩
  case round =>
    clear HO
    obtain ⟨j, s, hj, hs, rfl, rfl, rfl, rfl, HO⟩ := hrel
    by_cases hjl : j < ls.length
    · have hjI : (j : Int) < (ls.length : Int) := by omega
      obtain ⟨b, rfl, hst⟩ := oldAt HR.out rfl hjl
      have HSj := HS.out j hjl
      have HIj := HI.out j
      have HMj := HM.out j
      have k2j := k2.out _ (List.getElem_mem hjl)
      rw [← hs] at HSj HIj HMj
      have hjl2 : (ls.take j).length ≤ j := by simp; omega
      clear hs
      obtain ⟨m, n, ok⟩ := s
      generalize ls[j] = y at *
      obtain ⟨yo, ys, ya⟩ := y
      unfold lineC at hst
      replace hst := Lib.hid hst
      rw [show oldStep now least (m, n, ok) ⟨yo, ys, ya⟩ = if ok = true ∧ least ≤ now - ys then (m + 1, (addI n ya).1, (addI n ya).2) else (m, n, ok) from rfl] at HSj
      simp only at HIj HMj k2j ⊢
      have AD := fun w => mAdd_any HIj k2j.2.2 w
      replace HSj := Lib.hid HSj
      cases ok with
      | false =>
        rw [if_neg (by simp)] at HSj
        go_upto_region 7 with (first | go_big_skip | (first | go_big_skip | ((with_reducible apply wpList_loadAll HO); exact rfl; exact rfl; (repeat (with_reducible (first | exact At.head _ | apply At.tail))); infer_instance; exact rfl; exact rfl; (simp only [Act.put, zA, zB, zC])) | ((with_reducible apply wpList_loadOne HO); exact rfl; exact rfl; (repeat (with_reducible (first | exact At.head _ | apply At.tail))); exact rfl; infer_instance; exact rfl; (simp only [Act.put, zA, zB, zC]))) | ((with_reducible apply wpList_loadAt HO); exact rfl; exact rfl; exact (fun w' h1 => hst.out w' h1.grown); infer_instance; exact rfl; exact rfl; (simp only [Act.put, zA, zB, zC])) | (first | ((with_reducible apply wpList_boxAgg _ HO rfl); exact rfl; exact rfl; exact rfl; clear HO; intro b1 w HO; (simp only [Act.put, zA, zB, zC])) | ((with_reducible apply wpList_allocAgg _ HO rfl); exact rfl; infer_instance; exact rfl; clear HO; intro b1 w HO; (simp only [Act.put, zA, zB, zC]))) | ((with_reducible apply wpList_storeAll HO); exact rfl; exact rfl; exact rfl; (repeat (with_reducible (first | exact At.head _ | apply At.tail))); infer_instance; exact rfl; exact rfl; exact rfl; exact rfl; clear HO; intro w HO; (simp only [Act.put])))
        refine region_own HO (by kernel_rfl) (by kernel_rfl) ?_
        clear HO
        intro F HF
        repeat (first | (first | (first | go_big_quiet_skip | ((with_reducible apply wpQuiet_loadAll HF); exact rfl; exact rfl; (repeat (with_reducible (first | exact At.head _ | apply At.tail))); infer_instance; exact rfl; exact rfl; (simp only [Act.put, zA, zB, zC])) | ((with_reducible apply wpQuiet_loadOne HF); exact rfl; exact rfl; (repeat (with_reducible (first | exact At.head _ | apply At.tail))); exact rfl; infer_instance; exact rfl; (simp only [Act.put, zA, zB, zC])) | ((with_reducible apply wpQuiet_loadPart HF); exact rfl; exact rfl; (repeat (with_reducible (first | exact At.head _ | apply At.tail))); infer_instance; exact (Nat.le_of_ble_eq_true rfl); (simp only [List.drop_succ_cons, List.drop_zero, List.take_succ_cons, List.take_zero]; rfl); exact rfl; (simp only [Act.put, zA, zB, zC]))) | ((with_reducible apply wpQuiet_loadOld1 HF); exact rfl; exact rfl; exact hlt; exact h1; infer_instance; exact rfl; (simp only [Act.put, zA, zB, zC]))) | go_big_quiet_step (fail))
        refine wpQuiet_nil ?_
        intro x
        have HO := HF.own x
        clear HF
        generalize F x = w at *
        clear x F
        go_wp2_with fail
        replace HO := HO.tail
        go_roundw
        case rel => exact ⟨j + 1, _, by omega, rfl, by rw [HSj.out], by rw [HSj.out], by rw [HSj.out], by go_num, HO⟩
        case measure => simp [intOf] <;> omega
      | true =>
        by_cases hz : least ≤ now - ys
        · rw [if_pos ⟨rfl, hz⟩] at HSj
          go_upto_region 7 with (first | go_big_skip | (first | go_big_skip | ((with_reducible apply wpList_loadAll HO); exact rfl; exact rfl; (repeat (with_reducible (first | exact At.head _ | apply At.tail))); infer_instance; exact rfl; exact rfl; (simp only [Act.put, zA, zB, zC])) | ((with_reducible apply wpList_loadOne HO); exact rfl; exact rfl; (repeat (with_reducible (first | exact At.head _ | apply At.tail))); exact rfl; infer_instance; exact rfl; (simp only [Act.put, zA, zB, zC]))) | ((with_reducible apply wpList_loadAt HO); exact rfl; exact rfl; exact (fun w' h1 => hst.out w' h1.grown); infer_instance; exact rfl; exact rfl; (simp only [Act.put, zA, zB, zC])) | (first | ((with_reducible apply wpList_boxAgg _ HO rfl); exact rfl; exact rfl; exact rfl; clear HO; intro b1 w HO; (simp only [Act.put, zA, zB, zC])) | ((with_reducible apply wpList_allocAgg _ HO rfl); exact rfl; infer_instance; exact rfl; clear HO; intro b1 w HO; (simp only [Act.put, zA, zB, zC]))) | ((with_reducible apply wpList_storeAll HO); exact rfl; exact rfl; exact rfl; (repeat (with_reducible (first | exact At.head _ | apply At.tail))); infer_instance; exact rfl; exact rfl; exact rfl; exact rfl; clear HO; intro w HO; (simp only [Act.put])))
          refine region_own HO (by kernel_rfl) (by kernel_rfl) ?_
          clear HO
          intro F HF
          repeat (first | (first | (first | go_big_quiet_skip | ((with_reducible apply wpQuiet_loadAll HF); exact rfl; exact rfl; (repeat (with_reducible (first | exact At.head _ | apply At.tail))); infer_instance; exact rfl; exact rfl; (simp only [Act.put, zA, zB, zC])) | ((with_reducible apply wpQuiet_loadOne HF); exact rfl; exact rfl; (repeat (with_reducible (first | exact At.head _ | apply At.tail))); exact rfl; infer_instance; exact rfl; (simp only [Act.put, zA, zB, zC])) | ((with_reducible apply wpQuiet_loadPart HF); exact rfl; exact rfl; (repeat (with_reducible (first | exact At.head _ | apply At.tail))); infer_instance; exact (Nat.le_of_ble_eq_true rfl); (simp only [List.drop_succ_cons, List.drop_zero, List.take_succ_cons, List.take_zero]; rfl); exact rfl; (simp only [Act.put, zA, zB, zC]))) | ((with_reducible apply wpQuiet_loadOld1 HF); exact rfl; exact rfl; exact hlt; exact h1; infer_instance; exact rfl; (simp only [Act.put, zA, zB, zC]))) | go_big_quiet_step (fail))
          refine wpQuiet_nil ?_
          intro x
          have HO := HF.own x
          clear HF
          generalize F x = w at *
          clear x F
          go_wp2_with (first | go_big_skip | (first | go_big_skip | ((with_reducible apply wpList_loadAll HO); exact rfl; exact rfl; (repeat (with_reducible (first | exact At.head _ | apply At.tail))); infer_instance; exact rfl; exact rfl; (simp only [Act.put, zA, zB, zC])) | ((with_reducible apply wpList_loadOne HO); exact rfl; exact rfl; (repeat (with_reducible (first | exact At.head _ | apply At.tail))); exact rfl; infer_instance; exact rfl; (simp only [Act.put, zA, zB, zC]))) | (go_at_call 51; go_must ((with_reducible refine (AD _).mono ?_); rintro e w ⟨rfl, hb⟩; replace HO := HO.call hb; clear hb)))
          replace HO := HO.tail
          go_roundw
          case rel => exact ⟨j + 1, _, by omega, rfl, by rw [HSj.out], by rw [HSj.out], by rw [HSj.out], by go_num, HO⟩
          case measure => simp [intOf] <;> omega
        · rw [if_neg (fun h => hz h.2)] at HSj
          go_upto_region 7 with (first | go_big_skip | (first | go_big_skip | ((with_reducible apply wpList_loadAll HO); exact rfl; exact rfl; (repeat (with_reducible (first | exact At.head _ | apply At.tail))); infer_instance; exact rfl; exact rfl; (simp only [Act.put, zA, zB, zC])) | ((with_reducible apply wpList_loadOne HO); exact rfl; exact rfl; (repeat (with_reducible (first | exact At.head _ | apply At.tail))); exact rfl; infer_instance; exact rfl; (simp only [Act.put, zA, zB, zC]))) | ((with_reducible apply wpList_loadAt HO); exact rfl; exact rfl; exact (fun w' h1 => hst.out w' h1.grown); infer_instance; exact rfl; exact rfl; (simp only [Act.put, zA, zB, zC])) | (first | ((with_reducible apply wpList_boxAgg _ HO rfl); exact rfl; exact rfl; exact rfl; clear HO; intro b1 w HO; (simp only [Act.put, zA, zB, zC])) | ((with_reducible apply wpList_allocAgg _ HO rfl); exact rfl; infer_instance; exact rfl; clear HO; intro b1 w HO; (simp only [Act.put, zA, zB, zC]))) | ((with_reducible apply wpList_storeAll HO); exact rfl; exact rfl; exact rfl; (repeat (with_reducible (first | exact At.head _ | apply At.tail))); infer_instance; exact rfl; exact rfl; exact rfl; exact rfl; clear HO; intro w HO; (simp only [Act.put])))
          refine region_own HO (by kernel_rfl) (by kernel_rfl) ?_
          clear HO
          intro F HF
          repeat (first | (first | (first | go_big_quiet_skip | ((with_reducible apply wpQuiet_loadAll HF); exact rfl; exact rfl; (repeat (with_reducible (first | exact At.head _ | apply At.tail))); infer_instance; exact rfl; exact rfl; (simp only [Act.put, zA, zB, zC])) | ((with_reducible apply wpQuiet_loadOne HF); exact rfl; exact rfl; (repeat (with_reducible (first | exact At.head _ | apply At.tail))); exact rfl; infer_instance; exact rfl; (simp only [Act.put, zA, zB, zC])) | ((with_reducible apply wpQuiet_loadPart HF); exact rfl; exact rfl; (repeat (with_reducible (first | exact At.head _ | apply At.tail))); infer_instance; exact (Nat.le_of_ble_eq_true rfl); (simp only [List.drop_succ_cons, List.drop_zero, List.take_succ_cons, List.take_zero]; rfl); exact rfl; (simp only [Act.put, zA, zB, zC]))) | ((with_reducible apply wpQuiet_loadOld1 HF); exact rfl; exact rfl; exact hlt; exact h1; infer_instance; exact rfl; (simp only [Act.put, zA, zB, zC]))) | go_big_quiet_step (fail))
          refine wpQuiet_nil ?_
          intro x
          have HO := HF.own x
          clear HF
          generalize F x = w at *
          clear x F
          go_wp2_with (first | go_big_skip | (first | go_big_skip | ((with_reducible apply wpList_loadAll HO); exact rfl; exact rfl; (repeat (with_reducible (first | exact At.head _ | apply At.tail))); infer_instance; exact rfl; exact rfl; (simp only [Act.put, zA, zB, zC])) | ((with_reducible apply wpList_loadOne HO); exact rfl; exact rfl; (repeat (with_reducible (first | exact At.head _ | apply At.tail))); exact rfl; infer_instance; exact rfl; (simp only [Act.put, zA, zB, zC]))) | (go_at_call 51; go_must ((with_reducible refine (AD _).mono ?_); rintro e w ⟨rfl, hb⟩; replace HO := HO.call hb; clear hb)))
          replace HO := HO.tail
          go_roundw
          case rel => exact ⟨j + 1, _, by omega, rfl, by rw [HSj.out], by rw [HSj.out], by rw [HSj.out], by go_num, HO⟩
          case measure => simp [intOf] <;> omega
    · obtain rfl : j = ls.length := by omega
      rw [List.take_length] at hs
      obtain rfl : g0 = s := by rw [hs]; exact hg.out.symm
      obtain ⟨m, n, ok⟩ := g0
      clear hs HS HI HM k2
      cases ok with
      | false =>
        go_wp2_with fail
        go_ret3
        exact ⟨rfl, HO.grown⟩
      | true =>
        go_wp2_with fail
        go_ret3
        exact ⟨rfl, HO.grown⟩

set_option maxHeartbeats 16000000 in
set_option maxRecDepth 100000 in
/-- A core that is none is looked at. -/
theorem agSeeC_any {W w : World} {M : List Ent} {g : Nat} {now : Int} {v : Value} {ls : List LineS} (t : Int) (HO : Own W w (agPs g now v ls ++ M)) :
    Calls Tryz.prog 30 #[.pointer (some ⟨g, 0, none⟩), .int .i64 t, .pointer none] w fun e w' => e = .returned (.tuple #[]) ∧ Own W w' (agPs g (seeN now t) (.slice none 0 0) [] ++ M) := by
  have N := fun (w : World) (L : List Ent) (h : Own W w L) (h1 : box g (.cells (agC now v).toArray 162) ∈ L) => agNone_any (b := true) (cs := [.int .i64 now, v]) (h.has _ h1)
  have OC := fun w => coOrdersNil_any w
  unfold agPs at HO
  simp only [List.cons_append, List.nil_append, agC] at HO N
  go_enter Tryz.func30, Tryz.ntmps30
  go_wp2_with (first | go_big_skip | (first | go_big_skip | ((with_reducible apply wpList_loadAll HO); exact rfl; exact rfl; (repeat (with_reducible (first | exact At.head _ | apply At.tail))); infer_instance; exact rfl; exact rfl; (simp only [Act.put, zA, zB, zC])) | ((with_reducible apply wpList_loadOne HO); exact rfl; exact rfl; (repeat (with_reducible (first | exact At.head _ | apply At.tail))); exact rfl; infer_instance; exact rfl; (simp only [Act.put, zA, zB, zC]))) | ((with_reducible apply wpList_storeOne HO); exact rfl; exact rfl; (first | (simp [Act.eval]; rfl) | exact rfl); exact rfl; (repeat (with_reducible (first | exact At.head _ | apply At.tail))); infer_instance; exact (by simp); (simp only [List.set_cons_succ, List.set_cons_zero]; rfl); exact rfl; clear HO; intro w HO; (simp only [Act.put])) | (first | ((with_reducible apply wpList_boxAgg _ HO rfl); exact rfl; exact rfl; exact rfl; clear HO; intro b1 w HO; (simp only [Act.put, zA, zB, zC])) | ((with_reducible apply wpList_allocAgg _ HO rfl); exact rfl; infer_instance; exact rfl; clear HO; intro b1 w HO; (simp only [Act.put, zA, zB, zC]))) | (go_at_call 93; go_must ((with_reducible refine (N _ _ HO (by repeat (first | exact List.mem_cons_self | apply List.mem_cons_of_mem))).mono ?_); rintro e w ⟨rfl, hb⟩; replace HO := HO.call hb; clear hb)))
  go_loopw [6, 7] (fun vl iv wr => vl = .slice none 0 0 ∧ iv = .int .i64 1 ∧ Own W wr (box g (.cells #[.bool true, .int .i64 (max now (min t 1099511627776)), v] 162) :: row 158 3 v (ls.map lineC) :: M)) (fun _ iv _ => 0)
  case atStart => exact ⟨rfl, rfl, HO⟩
  case round =>
    clear HO
    obtain ⟨rfl, rfl, HO⟩ := hrel
    go_wp2_with (first | go_big_skip | (first | go_big_skip | ((with_reducible apply wpList_loadAll HO); exact rfl; exact rfl; (repeat (with_reducible (first | exact At.head _ | apply At.tail))); infer_instance; exact rfl; exact rfl; (simp only [Act.put, zA, zB, zC])) | ((with_reducible apply wpList_loadOne HO); exact rfl; exact rfl; (repeat (with_reducible (first | exact At.head _ | apply At.tail))); exact rfl; infer_instance; exact rfl; (simp only [Act.put, zA, zB, zC]))) | ((with_reducible apply wpList_storeOne HO); exact rfl; exact rfl; (first | (simp [Act.eval]; rfl) | exact rfl); exact rfl; (repeat (with_reducible (first | exact At.head _ | apply At.tail))); infer_instance; exact (by simp); (simp only [List.set_cons_succ, List.set_cons_zero]; rfl); exact rfl; clear HO; intro w HO; (simp only [Act.put])) | (go_at_call 15; go_must ((with_reducible refine (OC _).mono ?_); rintro e w ⟨rfl, hb⟩; replace HO := HO.call hb; clear hb)))
    go_end0
    exact ⟨rfl, ((HO.sub (by exact .cons_cons _ (.cons _ (List.Sublist.refl _)))).nil 158 3).perm (List.Perm.swap _ _ _)⟩
end Go.Proofs.YtibabfedpdoofaaGreatDoor
namespace Go.Proofs.YtibabfedpdoofaaGreatDoor
open Go.RowKit Go.Own Go.Maps

/-- The document's core in a world. -/
structure RcAt (w : World) (x : RcA) (S : CoS) (A : InS) : Prop where
  box : w.heap[x.r]? = some (.cells (rcC x A).toArray 152)
  s : RcS w x S A
theorem RcS.below {w w' : World} {x : RcA} {S : CoS} {A : InS} (h : RcS w x S A) (hb : Below w.heap.size w w') : RcS w' x S A := ⟨h.l.below hb h.l.lt, h.b.below hb h.b.lt, h.i0.below hb h.i0.lt, h.i1.below hb h.i1.lt, h.i2.below hb h.i2.lt⟩
theorem RcAt.below {w w' : World} {x : RcA} {S : CoS} {A : InS} (h : RcAt w x S A) (hb : Below w.heap.size w w') : RcAt w' x S A := ⟨by rw [hb.block _ (old_lt h.box)]; exact h.box, h.s.below hb⟩
theorem RcIn.full {W w : World} {G L : List Ent} {x : RcA} {S : CoS} {A : InS} (h : RcIn W G x S A) (hO : Own W w L) (hm : ∀ e ∈ G, e ∈ L) (hb : rcB x A ∈ L) : RcAt w x S A := ⟨hO.has _ hb, h.at hO hm⟩

set_option maxHeartbeats 16000000 in
set_option maxRecDepth 100000 in
theorem rcBal_any {W : World} {x : RcA} {S : CoS} {A : InS} (h : RcAt W x S A) (hs : ∀ p ∈ S.P, smallOk p) (hlen : S.P.length ≤ 100000) (n o : Int) : Calls Tryz.prog 95 #[.pointer (some ⟨x.r, 0, none⟩), .int .i64 n, .int .i64 o] W fun e w' => e = .returned (.int .i64 (bal S.P n o)) ∧ Below W.heap.size W w' := by
  have HO := Own.start W
  obtain ⟨p, c, hv, hmx⟩ := h.s.b.slice
  rw [List.length_map] at hv hmx
  have HR := Lib.hid h.s.b
  have h1 := old_cell h.box 1 rfl
  have hlt := old_lt h.box
  have hmx' : (S.P.length : Int) ≤ 100000 := by omega
  rw [hv] at h1
  generalize ha : x.u = av at *
  subst hv
  clear h ha
  have HB := Lib.hid (fun j => bal_small (b := 2199023255552) (by decide) n o (l := S.P.take j) (fun p hp => hs p (List.mem_of_mem_take hp)))
  have HT := Lib.hid (fun (j : Nat) (hj : j < S.P.length) => show bal (S.P.take (j + 1)) n o = bal (S.P.take j) n o + delta S.P[j] n o from by rw [List.take_succ_eq_append_getElem hj, bal_snoc])
  have HM := Lib.hid (fun (j : Nat) (hj : j < S.P.length) => hs S.P[j] (List.getElem_mem hj))
  generalize hg : bal S.P n o = g0
  replace hg := Lib.hid hg
  clear hs
  go_enter Tryz.func95, Tryz.ntmps95
  go_wp2_with (first | go_big_skip)
  go_loopw [7, 8] (fun sv iv wr => ∃ j : Nat, j ≤ S.P.length ∧ iv = .int .i64 (j : Int) ∧ sv = .int .i64 (bal (S.P.take j) n o) ∧ Own W wr []) (fun _ iv _ => S.P.length - (intOf iv).toNat)
  case atStart => exact ⟨0, by omega, rfl, rfl, HO⟩
  case round =>
    clear HO
    obtain ⟨j, hj, rfl, rfl, HO⟩ := hrel
    by_cases hjl : j < S.P.length
    · have hjI : (j : Int) < (S.P.length : Int) := by omega
      obtain ⟨b, rfl, hst⟩ := oldAt HR.out rfl hjl
      have hbj := HB.out j
      have htl : (S.P.take j).length ≤ j := by simp; omega
      have htj := HT.out j hjl
      have hmj := HM.out j hjl
      have hm1 := mayPst_iff.1 hmj.1
      have hm2 := hmj.2
      have hpa := hm1.2.2.2.2.2.2.2
      clear HB HT HM hmj
      generalize S.P[j] = y at *
      obtain ⟨pi, po, pd, pc, pa⟩ := y
      unfold pstC at hst
      have s1 := fun w' (h1 : Own W w' []) => hst w' h1.grown 1 _ rfl
      have s2 := fun w' (h1 : Own W w' []) => hst w' h1.grown 2 _ rfl
      have s3 := fun w' (h1 : Own W w' []) => hst w' h1.grown 3 _ rfl
      have s4 := fun w' (h1 : Own W w' []) => hst w' h1.grown 4 _ rfl
      rw [show delta ⟨pi, po, pd, pc, pa⟩ n o = if o ≠ 0 ∧ po ≠ o then 0 else if pd = n then pa else if pc = n then -pa else 0 from rfl] at htj
      simp only at hm1 hm2 hpa
      replace htj := Lib.hid htj
      have hlo : -(2199023255552 * (100000 : Int)) ≤ bal (S.P.take j) n o ∧ bal (S.P.take j) n o ≤ 2199023255552 * 100000 := by omega
      clear hst hbj
      generalize bal (S.P.take j) n o = bv at *
      have hx : (o ≠ 0 ∧ po ≠ o) ∨ (o = 0 ∨ o ≠ 0 ∧ po = o) := by omega
      rcases hx with ⟨x1, x2⟩ | hx
      · have x1' : (o != 0) = true := by simpa using x1
        have x2' : (po != o) = true := by simpa using x2
        rw [if_pos ⟨x1, x2⟩] at htj
        go_wp2_with (first | go_big_skip | ((with_reducible apply wpList_loadOld1 HO); exact rfl; exact rfl; exact hlt; exact h1; infer_instance; exact rfl; (simp only [Act.put, zA, zB, zC])) | ((with_reducible apply wpList_loadAt1 HO); exact rfl; exact rfl; exact (s1); infer_instance; exact rfl; (simp only [Act.put, zA, zB, zC])) | ((with_reducible apply wpList_loadAt1 HO); exact rfl; exact rfl; exact (s2); infer_instance; exact rfl; (simp only [Act.put, zA, zB, zC])) | ((with_reducible apply wpList_loadAt1 HO); exact rfl; exact rfl; exact (s3); infer_instance; exact rfl; (simp only [Act.put, zA, zB, zC])) | ((with_reducible apply wpList_loadAt1 HO); exact rfl; exact rfl; exact (s4); infer_instance; exact rfl; (simp only [Act.put, zA, zB, zC])))
        go_roundw
        case rel => exact ⟨j + 1, by omega, by go_num, by rw [htj.out, Int.add_zero], HO⟩
        case measure => simp [intOf] <;> omega
      · rw [if_neg (by omega)] at htj
        by_cases d1 : pd = n
        · have d2 : ¬ pc = n := by omega
          rw [if_pos d1] at htj
          clear hm1
          rcases hx with x1 | ⟨x1, x2⟩
          · go_wp2_with (first | go_big_skip | ((with_reducible apply wpList_loadOld1 HO); exact rfl; exact rfl; exact hlt; exact h1; infer_instance; exact rfl; (simp only [Act.put, zA, zB, zC])) | ((with_reducible apply wpList_loadAt1 HO); exact rfl; exact rfl; exact (s1); infer_instance; exact rfl; (simp only [Act.put, zA, zB, zC])) | ((with_reducible apply wpList_loadAt1 HO); exact rfl; exact rfl; exact (s2); infer_instance; exact rfl; (simp only [Act.put, zA, zB, zC])) | ((with_reducible apply wpList_loadAt1 HO); exact rfl; exact rfl; exact (s3); infer_instance; exact rfl; (simp only [Act.put, zA, zB, zC])) | ((with_reducible apply wpList_loadAt1 HO); exact rfl; exact rfl; exact (s4); infer_instance; exact rfl; (simp only [Act.put, zA, zB, zC])))
            go_roundw
            case rel => exact ⟨j + 1, by omega, by go_num, by rw [htj.out] <;> first | (rw [Int.add_zero]; done) | go_num, HO⟩
            case measure => simp [intOf] <;> omega
          · have x1' : (o != 0) = true := by simpa using x1
            subst x2
            go_wp2_with (first | go_big_skip | ((with_reducible apply wpList_loadOld1 HO); exact rfl; exact rfl; exact hlt; exact h1; infer_instance; exact rfl; (simp only [Act.put, zA, zB, zC])) | ((with_reducible apply wpList_loadAt1 HO); exact rfl; exact rfl; exact (s1); infer_instance; exact rfl; (simp only [Act.put, zA, zB, zC])) | ((with_reducible apply wpList_loadAt1 HO); exact rfl; exact rfl; exact (s2); infer_instance; exact rfl; (simp only [Act.put, zA, zB, zC])) | ((with_reducible apply wpList_loadAt1 HO); exact rfl; exact rfl; exact (s3); infer_instance; exact rfl; (simp only [Act.put, zA, zB, zC])) | ((with_reducible apply wpList_loadAt1 HO); exact rfl; exact rfl; exact (s4); infer_instance; exact rfl; (simp only [Act.put, zA, zB, zC])))
            go_roundw
            case rel => exact ⟨j + 1, by omega, by go_num, by rw [htj.out] <;> first | (rw [Int.add_zero]; done) | go_num, HO⟩
            case measure => simp [intOf] <;> omega
        · by_cases d2 : pc = n
          · rw [if_neg d1, if_pos d2] at htj
            clear hm1
            rcases hx with x1 | ⟨x1, x2⟩
            · go_wp2_with (first | go_big_skip | ((with_reducible apply wpList_loadOld1 HO); exact rfl; exact rfl; exact hlt; exact h1; infer_instance; exact rfl; (simp only [Act.put, zA, zB, zC])) | ((with_reducible apply wpList_loadAt1 HO); exact rfl; exact rfl; exact (s1); infer_instance; exact rfl; (simp only [Act.put, zA, zB, zC])) | ((with_reducible apply wpList_loadAt1 HO); exact rfl; exact rfl; exact (s2); infer_instance; exact rfl; (simp only [Act.put, zA, zB, zC])) | ((with_reducible apply wpList_loadAt1 HO); exact rfl; exact rfl; exact (s3); infer_instance; exact rfl; (simp only [Act.put, zA, zB, zC])) | ((with_reducible apply wpList_loadAt1 HO); exact rfl; exact rfl; exact (s4); infer_instance; exact rfl; (simp only [Act.put, zA, zB, zC])))
              go_roundw
              case rel => exact ⟨j + 1, by omega, by go_num, by rw [htj.out] <;> first | (rw [Int.add_zero]; done) | go_num, HO⟩
              case measure => simp [intOf] <;> omega
            · have x1' : (o != 0) = true := by simpa using x1
              subst x2
              go_wp2_with (first | go_big_skip | ((with_reducible apply wpList_loadOld1 HO); exact rfl; exact rfl; exact hlt; exact h1; infer_instance; exact rfl; (simp only [Act.put, zA, zB, zC])) | ((with_reducible apply wpList_loadAt1 HO); exact rfl; exact rfl; exact (s1); infer_instance; exact rfl; (simp only [Act.put, zA, zB, zC])) | ((with_reducible apply wpList_loadAt1 HO); exact rfl; exact rfl; exact (s2); infer_instance; exact rfl; (simp only [Act.put, zA, zB, zC])) | ((with_reducible apply wpList_loadAt1 HO); exact rfl; exact rfl; exact (s3); infer_instance; exact rfl; (simp only [Act.put, zA, zB, zC])) | ((with_reducible apply wpList_loadAt1 HO); exact rfl; exact rfl; exact (s4); infer_instance; exact rfl; (simp only [Act.put, zA, zB, zC])))
              go_roundw
              case rel => exact ⟨j + 1, by omega, by go_num, by rw [htj.out] <;> first | (rw [Int.add_zero]; done) | go_num, HO⟩
              case measure => simp [intOf] <;> omega
          · rw [if_neg d1, if_neg d2] at htj
            clear hm1
            rcases hx with x1 | ⟨x1, x2⟩
            · go_wp2_with (first | go_big_skip | ((with_reducible apply wpList_loadOld1 HO); exact rfl; exact rfl; exact hlt; exact h1; infer_instance; exact rfl; (simp only [Act.put, zA, zB, zC])) | ((with_reducible apply wpList_loadAt1 HO); exact rfl; exact rfl; exact (s1); infer_instance; exact rfl; (simp only [Act.put, zA, zB, zC])) | ((with_reducible apply wpList_loadAt1 HO); exact rfl; exact rfl; exact (s2); infer_instance; exact rfl; (simp only [Act.put, zA, zB, zC])) | ((with_reducible apply wpList_loadAt1 HO); exact rfl; exact rfl; exact (s3); infer_instance; exact rfl; (simp only [Act.put, zA, zB, zC])) | ((with_reducible apply wpList_loadAt1 HO); exact rfl; exact rfl; exact (s4); infer_instance; exact rfl; (simp only [Act.put, zA, zB, zC])))
              go_roundw
              case rel => exact ⟨j + 1, by omega, by go_num, by rw [htj.out] <;> first | (rw [Int.add_zero]; done) | go_num, HO⟩
              case measure => simp [intOf] <;> omega
            · have x1' : (o != 0) = true := by simpa using x1
              subst x2
              go_wp2_with (first | go_big_skip | ((with_reducible apply wpList_loadOld1 HO); exact rfl; exact rfl; exact hlt; exact h1; infer_instance; exact rfl; (simp only [Act.put, zA, zB, zC])) | ((with_reducible apply wpList_loadAt1 HO); exact rfl; exact rfl; exact (s1); infer_instance; exact rfl; (simp only [Act.put, zA, zB, zC])) | ((with_reducible apply wpList_loadAt1 HO); exact rfl; exact rfl; exact (s2); infer_instance; exact rfl; (simp only [Act.put, zA, zB, zC])) | ((with_reducible apply wpList_loadAt1 HO); exact rfl; exact rfl; exact (s3); infer_instance; exact rfl; (simp only [Act.put, zA, zB, zC])) | ((with_reducible apply wpList_loadAt1 HO); exact rfl; exact rfl; exact (s4); infer_instance; exact rfl; (simp only [Act.put, zA, zB, zC])))
              go_roundw
              case rel => exact ⟨j + 1, by omega, by go_num, by rw [htj.out] <;> first | (rw [Int.add_zero]; done) | go_num, HO⟩
              case measure => simp [intOf] <;> omega
    · obtain rfl : j = S.P.length := by omega
      rw [List.take_length]
      rw [hg.out]
      go_wp2_with (first | go_big_skip | ((with_reducible apply wpList_loadOld1 HO); exact rfl; exact rfl; exact hlt; exact h1; infer_instance; exact rfl; (simp only [Act.put, zA, zB, zC])))
      go_ret
      exact ⟨rfl, HO.grown⟩
end Go.Proofs.YtibabfedpdoofaaGreatDoor

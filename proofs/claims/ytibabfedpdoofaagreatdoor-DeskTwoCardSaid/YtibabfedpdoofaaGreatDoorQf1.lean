/-
  DeskTwo, by walking the law's text; conditions: the arguments lie in memory, the laid tables.
-/
import Derived.Test.YtibabfedpdoofaaGreatDoorQa1
import Derived.Test.YtibabfedpdoofaaGreatDoorQc2
import Derived.Test.YtibabfedpdoofaaGreatDoorQd1
namespace Go.Proofs.YtibabfedpdoofaaGreatDoor
open Go.RowKit Go.Own Go.Maps

theorem dkPropX {W w : World} {X R : List Ent} {x : DkA} {D : DkS} {a : CoA} {S : CoS} {i : InA} {A : InS} (y : ItemS) (h : Own W w (X ++ (dkPs x D ++ R))) (hm : ∀ e ∈ coPs a S i A, e ∈ R) (hI : ItOk D.I) (hB : Bk S.P) (hy : inI y.o = true) (hyb : y.b.length ≤ maxLen) (hlen : D.I.length ≤ 1000) :
    Calls Tryz.prog 42 #[.pointer (some ⟨x.t, 0, none⟩), .pointer (some ⟨a.c, 0, none⟩), itemV y] w fun e w' => e = .returned (.tuple #[.int .i64 (propN S D.I y), .int .i64 (propE S D.I y)]) ∧ ∃ v', Own W w' (X ++ (dkPs { x with v := v' } ⟨propI S D.I y, D.P⟩ ++ R)) :=
  (dkProp_any y (h.perm (List.perm_append_comm_assoc X (dkPs x D) R)) (fun e he => List.mem_append_right _ (hm e he)) hI hB hy hyb hlen).mono fun e w' h9 => by
    obtain ⟨he, v', h1⟩ := h9
    exact ⟨he, v', h1.perm (List.perm_append_comm_assoc X _ R).symm⟩
theorem dkApprX {W w : World} {X R : List Ent} {x : DkA} {D : DkS} {a : CoA} {S : CoS} {i : InA} {A : InS} {b : List UInt8} {n : Int} (h : Own W w (X ++ (dkPs x D ++ R))) (hm : ∀ e ∈ coPs a S i A, e ∈ R) (hI : ItOk D.I) (hBk : Bk D.P) (hB : Bk S.P) (hb : b.length ≤ maxLen) (hi : inI n = true) (hlen : D.P.length ≤ 99000) (hl1 : D.I.length ≤ 1000) (hL : LaidE W) :
    Calls Tryz.prog 47 #[.pointer (some ⟨x.t, 0, none⟩), .pointer (some ⟨a.c, 0, none⟩), .string ⟨b.toArray⟩, .int .i64 n] w fun e w' => e = .returned (.int .i64 (apprE S D b n)) ∧ ∃ u', Own W w' (X ++ (dkPs { x with u := u' } (apprD S D b n) ++ R)) :=
  (dkAppr_any (h.perm (List.perm_append_comm_assoc X (dkPs x D) R)) (fun e he => List.mem_append_right _ (hm e he)) hI hBk hB hb hi hlen hl1 hL).mono fun e w' h9 => by
    obtain ⟨he, v', h1⟩ := h9
    exact ⟨he, v', h1.perm (List.perm_append_comm_assoc X _ R).symm⟩
theorem dkRefuseX {W w : World} {X R : List Ent} {x : DkA} {D : DkS} {b : List UInt8} {n : Int} (h : Own W w (X ++ (dkPs x D ++ R))) (hb : b.length ≤ maxLen) (hi : inI n = true) :
    Calls Tryz.prog 44 #[.pointer (some ⟨x.t, 0, none⟩), .string ⟨b.toArray⟩, .int .i64 n] w fun e w' => e = .returned (.int .i64 (pendE D.I b n)) ∧ Own W w' (X ++ (dkPs x ⟨refuI D.I b n, D.P⟩ ++ R)) :=
  (dkRefuse_any (h.perm (List.perm_append_comm_assoc X (dkPs x D) R)) hb hi).mono fun _e _w' h9 => ⟨h9.1, h9.2.perm (List.perm_append_comm_assoc X _ R).symm⟩
theorem coApplyX {W w : World} {X M : List Ent} {a : CoA} {S : CoS} {i : InA} {A : InS} {v : Value} (x : EntS) (h : Own W w (X ++ (coPs a S i A ++ (inPs i A ++ M)))) (hx : ∀ N, EntW W N x v) (hA : InOk A) (hok : CoOk S) (hlen : S.P.length ≤ 99000) (hL : LaidE W) :
    Calls Tryz.prog 27 #[.pointer (some ⟨a.c, 0, none⟩), .agg #[.int .i64 (x).k, .int .i64 (x).id, .string ⟨(x).ref.toArray⟩, .string ⟨(x).sku.toArray⟩, .int .i64 (x).qty, .int .i64 (x).amt, .int .i64 (x).o, .int .i64 (x).d, .int .i64 (x).c, .int .i64 (x).p, .int .i64 (x).q, v]] w fun e w' => e = .returned (.int .i64 (applyE S A x)) ∧ ∃ u' v' i', Own W w' (X ++ (coPs { a with u := u', v := v' } (applyS S A x) i' (applyI A x) ++ (inPs i' (applyI A x) ++ M))) := by
  have hp : ∀ C I : List Ent, (X ++ (C ++ (I ++ M))).Perm (C ++ (I ++ (X ++ M))) := fun C I =>
    (List.perm_append_comm_assoc X C (I ++ M)).trans (List.Perm.append_left C (List.perm_append_comm_assoc X I M))
  refine (coApply_any x (h.perm (hp _ _)) (hx _) hA hok hlen hL).mono fun e w' h9 => ?_
  obtain ⟨he, u', v', i', -, h1⟩ := h9
  exact ⟨he, u', v', i', h1.perm (hp _ _).symm⟩
theorem coApplyY {W w : World} {Z Z9 : Ent} {M : List Ent} {x : DkA} {D : DkS} {a : CoA} {S : CoS} {i : InA} {A : InS} {v : Value} (y : EntS) (h : Own W w (Z :: (dkPs x D ++ (Z9 :: (coPs a S i A ++ (inPs i A ++ M)))))) (hx : ∀ N, EntW W N y v) (hA : InOk A) (hok : CoOk S) (hlen : S.P.length ≤ 99000) (hL : LaidE W) :
    Calls Tryz.prog 27 #[.pointer (some ⟨a.c, 0, none⟩), .agg #[.int .i64 (y).k, .int .i64 (y).id, .string ⟨(y).ref.toArray⟩, .string ⟨(y).sku.toArray⟩, .int .i64 (y).qty, .int .i64 (y).amt, .int .i64 (y).o, .int .i64 (y).d, .int .i64 (y).c, .int .i64 (y).p, .int .i64 (y).q, v]] w fun e w' => e = .returned (.int .i64 (applyE S A y)) ∧ ∃ u' v' i', Own W w' (Z :: (dkPs x D ++ (Z9 :: (coPs { a with u := u', v := v' } (applyS S A y) i' (applyI A y) ++ (inPs i' (applyI A y) ++ M))))) :=
  coApplyX (X := Z :: (dkPs x D ++ [Z9])) y h hx hA hok hlen hL
theorem dk_arr1 (A Z : Ent) (K R : List Ent) : (A :: (K ++ (Z :: R))).Perm (A :: Z :: (K ++ R)) := List.perm_middle.cons A
theorem dk_arr3 (A B C Z : Ent) (K R : List Ent) : (A :: B :: C :: (K ++ (Z :: R))).Perm (A :: B :: C :: Z :: (K ++ R)) := ((List.perm_middle.cons C).cons B).cons A
theorem itemR_form (y : Option ItemS) : ∃ (z : ItemS) (k : Bool), itemR y = .tuple #[.agg #[.string ⟨z.b.toArray⟩, .int .i64 z.o, .int .i64 z.a, .int .i64 z.s], .bool k] := by
  cases y with
  | none => exact ⟨⟨[], 0, 0, 0⟩, false, rfl⟩
  | some y => exact ⟨y, true, rfl⟩
def arrC (ss : List Int) : List Value := ss.map (fun n => Value.int .i64 n)
def arrE (b : Nat) (ss : List Int) : Ent := box b (.cells (arrC ss).toArray 98)
theorem dk_mem (X : List Ent) (x : DkA) (D : DkS) (R : List Ent) : ∀ e ∈ dkPs x D, e ∈ X ++ (dkPs x D ++ R) := fun _e he => List.mem_append_right _ (List.mem_append_left _ he)
theorem DkOk.itOk {D : DkS} (h : DkOk D) : ItOk D.I := fun x hx => by
  obtain ⟨h1, h2, h3, h4, h5⟩ := h.it x hx
  exact ⟨inI_iff.2 (by omega), h3, h5, by unfold maxLen; omega⟩
/-- What the law keeps of each order. -/
def SumsOk (ss : List Int) (I : List ItemS) : Prop := ss.length = 61 ∧ ∀ o : Nat, 1 ≤ o → o ≤ 60 → ss[o]? = some (wsum (o : Int) I)
theorem sums_new : SumsOk (List.replicate 61 0) [] := ⟨by simp, fun o h1 h2 => by rw [List.getElem?_replicate, if_pos (by omega)]; rfl⟩
theorem propI_wsum {S : CoS} {I : List ItemS} {x : ItemS} (o : Int) : wsum o (propI S I x) = wsum o I := by
  unfold propI
  split
  · rw [wsum_app, wsum_one, wItem, if_neg (by simp), Int.add_zero]
  · rfl
theorem refuI_wsum {I : List ItemS} {b : List UInt8} {n : Int} (o : Int) : wsum o (refuI I b n) = wsum o I := by
  unfold refuI
  split
  · rename_i hz
    obtain ⟨_, j, hj, rfl, hs, hx⟩ := pend_zero hz
    rw [hx]
    simp only
    unfold setI
    rw [show ((j : Int) + 1 - 1).toNat = j by omega, wsum_set o _ j hj, wItem, if_neg (by rw [hs]; simp), wItem, if_neg (by simp)]
    omega
  · rfl
theorem SumsOk.prop {ss : List Int} {S : CoS} {I : List ItemS} {x : ItemS} (h : SumsOk ss I) : SumsOk ss (propI S I x) := ⟨h.1, fun o h1 h2 => by rw [propI_wsum]; exact h.2 o h1 h2⟩
theorem SumsOk.refu {ss : List Int} {I : List ItemS} {b : List UInt8} {n : Int} (h : SumsOk ss I) : SumsOk ss (refuI I b n) := ⟨h.1, fun o h1 h2 => by rw [refuI_wsum]; exact h.2 o h1 h2⟩
theorem SumsOk.appr {ss : List Int} {I : List ItemS} {j k : Nat} (h : SumsOk ss I) (hj : j < I.length) (hs : I[j].s = 1) (ho : I[j].o = (k : Int)) : SumsOk (ss.set k (wsum (k : Int) I + I[j].a)) (I.set j { I[j] with s := 2 }) := by
  refine ⟨by simpa using h.1, fun o h1 h2 => ?_⟩
  rw [wsum_set _ _ j hj, wItem, if_neg (by rw [hs]; simp), wItem]
  have hl := h.1
  by_cases e : k = o
  · subst e
    rw [if_pos ⟨ho, rfl⟩, List.getElem?_set_self (by omega)]
    dsimp only
    congr 1
    omega
  · rw [if_neg (fun hh => e (by have := hh.1; rw [ho] at this; omega)), List.getElem?_set_ne e, h.2 o h1 h2]
    congr 1
    omega
theorem postL_len9 (l : List Pst) (p : Pst) : (postL l p).length ≤ l.length + 1 := by
  unfold postL
  split
  · simp
  · omega
theorem apprD_len (S : CoS) (D : DkS) (b : List UInt8) (n : Int) : (apprD S D b n).P.length ≤ D.P.length + 1 := by
  unfold apprD
  split
  · split
    · omega
    · exact postL_len9 _ _
  · omega
set_option maxHeartbeats 64000000 in
set_option maxRecDepth 100000 in
theorem deskTwo_any {W : World} {v u : Value} {es : List EntI} {xs : List ActI} (h : IsEnts W v es) (ha : IsActs W u xs) (hL : LaidE W) : Calls Tryz.prog 8 #[v, u] W fun e w' => e = .returned (.bool true) ∧ Below W.heap.size W w' := by
  have HO := Own.start W
  have AD := fun (w : World) (hb : Below W.heap.size W w) => signed_any w (hL.below hb)
  have GR := fun (w : World) (hb : Below W.heap.size W w) => great24_any 40 (h.below hb)
  have GA := fun (w : World) (hb : Below W.heap.size W w) => great32_any 40 (ha.below hb)
  have HT := Lib.hid ha.l
  have HR := Lib.hid ha.r
  obtain ⟨tp, tc, rfl, htx⟩ := ha.l.slice
  rw [List.length_map] at HT GA ⊢
  by_cases hg : greatL es 40 = true
  · rw [hg] at GR
    clear h ha htx HT HR GA
    go_enter Tryz.func8, Tryz.ntmps8
    go_wp2_with (first | go_big_skip | (go_at_call 11; go_must ((with_reducible refine (GR _ HO.grown).mono ?_); rintro e w ⟨rfl, hb⟩; replace HO := HO.call hb; clear hb)) | (go_at_call 39; go_must ((with_reducible refine (AD _ HO.grown).mono ?_); rintro e w ⟨rfl, hb⟩; replace HO := HO.call hb; clear hb)))
    go_ret
    exact ⟨rfl, HO.grown⟩
  have hl40 : es.length ≤ 40 := by
    simp only [greatL, Bool.or_eq_true, decide_eq_true_eq, not_or] at hg
    omega
  rw [Bool.not_eq_true] at hg
  rw [hg] at GR
  by_cases hga : greatA xs 40 = true
  · rw [hga] at GA
    clear h ha htx HT HR hg hga
    go_enter Tryz.func8, Tryz.ntmps8
    go_wp2_with (first | go_big_skip | (go_at_call 11; go_must ((with_reducible refine (GR _ HO.grown).mono ?_); rintro e w ⟨rfl, hb⟩; replace HO := HO.call hb; clear hb)) | (go_at_call 45; go_must ((with_reducible refine (GA _ HO.grown).mono ?_); rintro e w ⟨rfl, hb⟩; replace HO := HO.call hb; clear hb)) | (go_at_call 39; go_must ((with_reducible refine (AD _ HO.grown).mono ?_); rintro e w ⟨rfl, hb⟩; replace HO := HO.call hb; clear hb)))
    go_ret
    exact ⟨rfl, HO.grown⟩
  have hlx : xs.length ≤ 40 := by
    simp only [greatA, Bool.or_eq_true, decide_eq_true_eq, not_or] at hga
    omega
  rw [Bool.not_eq_true] at hga
  rw [hga] at GA
  have CR := Lib.hid (fun (w : World) (hO : Own W w []) => cored_any (G := []) hO (fun e he => he) (h.into []) hL (by omega))
  obtain ⟨o1, o2, oi⟩ := coreOf_ok (es.map (·.x)) (es.map (·.x)).length (by simp)
  rw [List.take_length] at o1 o2 oi
  rw [List.length_map] at o2
  clear h hg ha htx hga
  generalize (coreOf (es.map (·.x))).1 = S0 at *
  generalize (coreOf (es.map (·.x))).2 = A0 at *
  go_enter Tryz.func8, Tryz.ntmps8
  go_upto_region 4 with (first | go_big_skip | (go_at_call 11; go_must ((with_reducible refine (GR _ HO.grown).mono ?_); rintro e w ⟨rfl, hb⟩; replace HO := HO.call hb; clear hb)) | (go_at_call 45; go_must ((with_reducible refine (GA _ HO.grown).mono ?_); rintro e w ⟨rfl, hb⟩; replace HO := HO.call hb; clear hb)) | (go_at_call 14; go_must ((with_reducible refine (CR.out _ HO).mono ?_); clear CR HO; rintro e w ⟨a, i, x, N, rfl, HO, -⟩)))
  generalize rcB x A0 :: (N ++ []) = M at *
  go_upto_region 7 with (first | go_big_skip | (go_at_call 40; go_must ((with_reducible refine (dkNew_any _).mono ?_); rintro e w ⟨y, rfl, HO1⟩; replace HO := HO.lift HO1; clear HO1)))
  go_wp2_with (first | go_big_skip | (first | ((with_reducible apply wpList_boxAgg _ HO rfl); exact rfl; exact rfl; exact rfl; clear HO; intro b9 w HO; (simp only [Act.put, zA, zB, zC])) | ((with_reducible apply wpList_allocAgg _ HO rfl); exact rfl; infer_instance; exact rfl; clear HO; intro b9 w HO; (simp only [Act.put, zA, zB, zC]))))
  have HO1 : Own W w (dkPs y ⟨[], []⟩ ++ (arrE b9 (List.replicate 61 0) :: (coPs a S0 i A0 ++ (inPs i A0 ++ M)))) := by
    have h9 : Own W w (arrE b9 (List.replicate 61 0) :: (dkPs y ⟨[], []⟩ ++ (coPs a S0 i A0 ++ (inPs i A0 ++ M)))) := HO
    exact h9.perm (List.perm_middle (l₁ := dkPs y ⟨[], []⟩)).symm
  clear HO
  have HO := HO1
  clear HO1
  go_loopw [10] (fun iv wr => ∃ (j : Nat) (y' : DkA) (a' : CoA) (S : CoS) (i' : InA) (A : InS) (D : DkS) (ss : List Int), j ≤ xs.length ∧ iv = .int .i64 (j : Int) ∧ y'.t = y.t ∧ a'.c = a.c ∧ CoOk S ∧ S.P.length ≤ 2400 + 60 * j ∧ InOk A ∧ DkOk D ∧ D.P.length ≤ j ∧ SumsOk ss D.I ∧
    Own W wr (dkPs y' D ++ (arrE b9 ss :: (coPs a' S i' A ++ (inPs i' A ++ M))))) (fun iv _ => xs.length - (intOf iv).toNat)
  case atStart => exact ⟨0, y, a, S0, i, A0, ⟨[], []⟩, List.replicate 61 0, by omega, rfl, rfl, rfl, o1, by omega, oi, dkOk_new, by simp, sums_new, HO⟩
  case round =>
    clear HO
    obtain ⟨j, y', a', S, i', A, D, ss, hj, rfl, hyt, hac, hS, hSP, hA, hD, hDP, hss, HO⟩ := hrel
    by_cases hjl : j < xs.length
    rotate_left
    · obtain rfl : j = xs.length := by omega
      have hjI : ¬ ((xs.length : Int) < (xs.length : Int)) := by omega
      obtain ⟨yt, yv, yk, yu, ypm, ybm⟩ := y'
      simp only at hyt
      subst hyt
      have BK := Lib.hid (fun (w : World) (h : Own W w (dkPs ⟨y.t, yv, yk, yu, ypm, ybm⟩ D ++ (arrE b9 ss :: (coPs a' S i' A ++ (inPs i' A ++ M))))) => dkBooks_any (Own.dkAt h (dk_mem [] ⟨y.t, yv, yk, yu, ypm, ybm⟩ D _)) (by omega))
      simp only at BK
      have HDD := Lib.hid hD
      have HSS := Lib.hid hss
      clear hD hss hS hA hSP
      go_wp2_with (first | go_big_skip | (go_at_call 48; go_must ((have h9 := BK.out _ HO); (with_reducible refine h9.mono ?_); clear h9; rintro e w ⟨b2, v2, p2, m2, rfl, HO1⟩; replace HO := HO.lift HO1; clear HO1; simp only [List.cons_append, List.nil_append] at HO)))
      replace HO := HO.perm (dk_arr1 _ _ _ _)
      unfold arrE at HO
      generalize dkPs ⟨y.t, yv, yk, yu, ypm, ybm⟩ D ++ (coPs a' S i' A ++ (inPs i' A ++ M)) = MM at *
      have BL := Lib.hid (fun (w : World) (L : List Ent) (h : Own W w (bkE b2 v2 p2 m2 D.P :: L)) (n : Int) (hn : inI n = true) (o : Nat) (ho : o ≤ 60) => bkBal_any (Own.bkAt h (.head _)) (n := n) (o := (o : Int)) hn (inI_iff.2 (by omega)))
      have BZ := Lib.hid (fun (w : World) (L : List Ent) (h : Own W w (bkE b2 v2 p2 m2 D.P :: L)) => bkZero_any (Own.bkAt h (.head _)) HDD.out.bk.may)
      go_loopw [21] (fun ov wr => ∃ o : Nat, 1 ≤ o ∧ o ≤ 61 ∧ ov = .int .i64 (o : Int) ∧ Own W wr (bkE b2 v2 p2 m2 D.P :: box b9 (.cells (arrC ss).toArray 98) :: MM)) (fun ov _ => 62 - (intOf ov).toNat)
      case atStart => exact ⟨1, by omega, by omega, rfl, HO⟩
      case round =>
        clear HO
        obtain ⟨o, h1, h61, rfl, HO⟩ := hrel
        by_cases h60 : o ≤ 60
        · have hoI : (o : Int) ≤ 60 := by omega
          have B4 := fun (w : World) (h : Own W w (bkE b2 v2 p2 m2 D.P :: box b9 (.cells (arrC ss).toArray 98) :: MM)) => BL.out w _ h 4 rfl o h60
          have B1 := fun (w : World) (h : Own W w (bkE b2 v2 p2 m2 D.P :: box b9 (.cells (arrC ss).toArray 98) :: MM)) => BL.out w _ h 1 rfl o h60
          have hin1 := HDD.out.bk.bal_in 1 (o : Int)
          rw [HDD.out.b1 (o : Int) (by omega)] at B1 hin1
          rw [HDD.out.b4 (o : Int) (by omega)] at B4
          have hcell : (arrC ss)[o]? = some (.int .i64 (wsum (o : Int) D.I)) := by
            unfold arrC
            rw [List.getElem?_map, HSS.out.2 o h1 h60]
            rfl
          generalize wsum (o : Int) D.I = s9 at *
          have hneg : IntKind.i64.wrap (-s9) = -s9 := wrap_in hin1
          replace hcell := Lib.hid hcell
          clear hin1
          go_upto_region 34 with (first | go_big_skip)
          refine region_own HO (by kernel_rfl) (by kernel_rfl) ?_
          clear HO
          intro F HF
          repeat (first | (first | ((with_reducible apply wpQuiet_loadOne HF); exact rfl; exact rfl; (repeat (with_reducible (first | exact At.head _ | apply At.tail))); exact hcell.out; infer_instance; exact rfl; (simp only [Act.put, zA, zB, zC]))) | go_big_quiet_step ((go_at_call 52; first | (with_reducible exact calls_fam HF (B4 _ (HF.own _))) | (with_reducible exact calls_fam HF (B1 _ (HF.own _))))))
          refine wpQuiet_nil ?_
          intro x
          have HO := HF.own x
          clear HF
          generalize F x = w at *
          clear x F
          go_wp2_with (first | go_big_skip)
          go_roundw
          case rel => exact ⟨o + 1, by omega, by omega, by go_num, HO⟩
          case measure => simp [intOf] <;> omega
        · have hoI : ¬ ((o : Int) ≤ 60) := by omega
          go_wp2_with (first | go_big_skip | (go_at_call 53; go_must ((with_reducible refine (BZ.out _ _ HO).mono ?_); rintro e w ⟨rfl, hb⟩; replace HO := HO.call hb; clear hb)) | (go_at_call 39; go_must ((with_reducible refine (AD _ HO.grown).mono ?_); rintro e w ⟨rfl, hb⟩; replace HO := HO.call hb; clear hb)))
          go_ret
          exact ⟨rfl, HO.grown⟩
    have hjI : (j : Int) < (xs.length : Int) := by omega
    obtain ⟨q, rfl, hst⟩ := oldAt HT.out rfl hjl
    have hok := HR.out _ (List.getElem_mem hjl)
    generalize xs[j] = z at *
    obtain ⟨zk, zb, zn, ⟨ib, io, ia, is⟩, ⟨ex, ev⟩⟩ := z
    unfold actC at hst
    simp only at hst
    replace hst := Lib.hid hst
    obtain ⟨k1, k2, k3, k4, k5, k6, k7, k8, k9, k10, k11⟩ := hok
    simp only at k1 k2 k3 k4 k5 k6 k7 k8 k9 k10 k11
    obtain ⟨ep, ec, hev, -⟩ := k8.slice
    obtain ⟨en, hen⟩ : ∃ n, n = ex.rs.length := ⟨_, rfl⟩
    rw [← hen] at hev
    subst hev
    replace hen := Lib.hid hen
    obtain ⟨yt, yv, yk, yu, ypm, ybm⟩ := y'
    obtain ⟨ac, av, ak, au, apm, abm⟩ := a'
    simp only at hyt hac
    subst hyt hac
    have hmm : ∀ e ∈ coPs ⟨a.c, av, ak, au, apm, abm⟩ S i' A, e ∈ (arrE b9 ss :: (coPs ⟨a.c, av, ak, au, apm, abm⟩ S i' A ++ (inPs i' A ++ M))) := fun e he => .tail _ (List.mem_append_left _ he)
    have hIl := hD.len
    have PR := Lib.hid (fun (w : World) (X : List Ent) (h : Own W w (X ++ (dkPs ⟨y.t, yv, yk, yu, ypm, ybm⟩ D ++ (arrE b9 ss :: (coPs ⟨a.c, av, ak, au, apm, abm⟩ S i' A ++ (inPs i' A ++ M)))))) => dkPropX (⟨ib, io, ia, is⟩ : ItemS) h hmm hD.itOk hS.bk k5 k4 (by omega))
    have AP := Lib.hid (fun (w : World) (X : List Ent) (h : Own W w (X ++ (dkPs ⟨y.t, yv, yk, yu, ypm, ybm⟩ D ++ (arrE b9 ss :: (coPs ⟨a.c, av, ak, au, apm, abm⟩ S i' A ++ (inPs i' A ++ M)))))) => dkApprX (b := zb) (n := zn) h hmm hD.itOk hD.bk hS.bk k2 k3 (by omega) (by omega) hL)
    have RF := Lib.hid (fun (w : World) (X : List Ent) (h : Own W w (X ++ (dkPs ⟨y.t, yv, yk, yu, ypm, ybm⟩ D ++ (arrE b9 ss :: (coPs ⟨a.c, av, ak, au, apm, abm⟩ S i' A ++ (inPs i' A ++ M)))))) => dkRefuseX (b := zb) (n := zn) h k2 k3)
    have CP := Lib.hid (fun (w : World) (Z : Ent) (h : Own W w (Z :: (dkPs ⟨y.t, yv, yk, yu, ypm, ybm⟩ D ++ (arrE b9 ss :: (coPs ⟨a.c, av, ak, au, apm, abm⟩ S i' A ++ (inPs i' A ++ M)))))) => coApplyY ex h (fun N => ⟨.old k8 N, k9, k10, k11⟩) hA hS (by omega) hL)
    have IT := Lib.hid (fun (w : World) (X : List Ent) (h : Own W w (X ++ (dkPs ⟨y.t, yv, yk, yu, ypm, ybm⟩ D ++ (arrE b9 ss :: (coPs ⟨a.c, av, ak, au, apm, abm⟩ S i' A ++ (inPs i' A ++ M)))))) => dkItem_any (Own.dkAt h (dk_mem X ⟨y.t, yv, yk, yu, ypm, ybm⟩ D (arrE b9 ss :: (coPs ⟨a.c, av, ak, au, apm, abm⟩ S i' A ++ (inPs i' A ++ M))))) k3)
    simp only [itemV] at PR AP RF CP IT
    have hk0 : (0 : Int) ≤ (zk : Int) := by omega
    have hk255 : (zk : Int) ≤ 255 := by omega
    replace hDP := hDP
    have HDD := Lib.hid hD
    have HSS := Lib.hid hss
    have HS := Lib.hid hS
    have HAA := Lib.hid hA
    clear hD hss hS hA hmm
    go_upto_region 14 with (first | go_big_skip | (first | go_big_skip | ((with_reducible apply wpList_loadAll HO); exact rfl; exact rfl; (repeat (with_reducible (first | exact At.head _ | apply At.tail))); infer_instance; exact rfl; exact rfl; (simp only [Act.put, zA, zB, zC])) | ((with_reducible apply wpList_loadOne HO); exact rfl; exact rfl; (repeat (with_reducible (first | exact At.head _ | apply At.tail))); exact rfl; infer_instance; exact rfl; (simp only [Act.put, zA, zB, zC]))) | ((with_reducible apply wpList_storeAll HO); exact rfl; exact rfl; exact rfl; (repeat (with_reducible (first | exact At.head _ | apply At.tail))); infer_instance; exact rfl; exact rfl; exact rfl; exact rfl; clear HO; intro w HO; (simp only [Act.put])) | (first | ((with_reducible apply wpList_boxAgg _ HO rfl); exact rfl; exact rfl; exact rfl; clear HO; intro b11 w HO; (simp only [Act.put, zA, zB, zC])) | ((with_reducible apply wpList_allocAgg _ HO rfl); exact rfl; infer_instance; exact rfl; clear HO; intro b11 w HO; (simp only [Act.put, zA, zB, zC]))) | ((with_reducible apply wpList_loadAt HO); exact rfl; exact rfl; exact (fun w' h1 => hst.out w' h1.grown); infer_instance; exact rfl; exact rfl; (simp only [Act.put, zA, zB, zC])))
    obtain ⟨m, hm9⟩ : ∃ m : Int, m = (zk : Int) % 8 := ⟨_, rfl⟩
    rw [← hm9]
    have hmr : m = 7 ∨ m = 6 ∨ (m = 4 ∨ m = 5) ∨ (m ≠ 4 ∧ m ≠ 5 ∧ m ≠ 6 ∧ m ≠ 7) := by omega
    replace hm9 := Lib.hid hm9
    clear hst hk0 hk255
    rcases hmr with rfl | rfl | hm45 | ⟨n4, n5, n6, n7⟩
    · have h2 := applyS_ok (A := A) HS.out ex
      have h3 := applyI_ok HAA.out ex
      clear PR AP RF IT
      go_wp2_with (first | go_big_skip | (first | go_big_skip | ((with_reducible apply wpList_loadAll HO); exact rfl; exact rfl; (repeat (with_reducible (first | exact At.head _ | apply At.tail))); infer_instance; exact rfl; exact rfl; (simp only [Act.put, zA, zB, zC])) | ((with_reducible apply wpList_loadOne HO); exact rfl; exact rfl; (repeat (with_reducible (first | exact At.head _ | apply At.tail))); exact rfl; infer_instance; exact rfl; (simp only [Act.put, zA, zB, zC]))) | ((with_reducible apply wpList_loadPart HO); exact rfl; exact rfl; (repeat (with_reducible (first | exact At.head _ | apply At.tail))); infer_instance; exact (Nat.le_of_ble_eq_true rfl); (simp only [List.drop_succ_cons, List.drop_zero, List.take_succ_cons, List.take_zero]; rfl); exact rfl; (simp only [Act.put, zA, zB, zC])) | (go_at_call 27; go_must ((have h9 := CP.out _ _ HO); (with_reducible refine h9.mono ?_); clear h9 HO; rintro e w ⟨rfl, u8, v8, i8, HO⟩)))
      replace HO := HO.tail
      go_roundw
      case rel => exact ⟨j + 1, ⟨y.t, yv, yk, yu, ypm, ybm⟩, ⟨a.c, v8, ak, u8, apm, abm⟩, applyS S A ex, i8, applyI A ex, D, ss, by omega, by go_num, rfl, rfl, h2.1, by omega, h3, HDD.out, by omega, HSS.out, HO⟩
      case measure => simp [intOf] <;> omega
    · clear PR AP CP IT
      have h2 := Lib.hid (refuI_ok (b := zb) (n := zn) HDD.out)
      have h3 := Lib.hid (HSS.out.refu (b := zb) (n := zn))
      generalize pendE D.I zb zn = e9 at *
      generalize refuI D.I zb zn = I9 at *
      go_wp2_with (first | go_big_skip | (first | go_big_skip | ((with_reducible apply wpList_loadAll HO); exact rfl; exact rfl; (repeat (with_reducible (first | exact At.head _ | apply At.tail))); infer_instance; exact rfl; exact rfl; (simp only [Act.put, zA, zB, zC])) | ((with_reducible apply wpList_loadOne HO); exact rfl; exact rfl; (repeat (with_reducible (first | exact At.head _ | apply At.tail))); exact rfl; infer_instance; exact rfl; (simp only [Act.put, zA, zB, zC]))) | (go_at_call 44; go_must ((have h9 := RF.out _ [_] HO); (with_reducible refine h9.mono ?_); clear h9 HO; rintro e w ⟨rfl, HO⟩; simp only [List.cons_append, List.nil_append] at HO)))
      replace HO := HO.tail
      go_roundw
      case rel => exact ⟨j + 1, ⟨y.t, yv, yk, yu, ypm, ybm⟩, ⟨a.c, av, ak, au, apm, abm⟩, S, i', A, ⟨I9, D.P⟩, ss, by omega, by go_num, rfl, rfl, HS.out, by omega, HAA.out, h2.out, (by show D.P.length ≤ j + 1; omega), h3.out, HO⟩
      case measure => simp [intOf] <;> omega
    · by_cases hz : apprE S D zb zn = 0
      rotate_left
      · have hd : (apprE S D zb zn != 0) = true := by rw [bne_iff_ne]; exact hz
        obtain ⟨z1, kk, hf⟩ := itemR_form (itemAt D.I zn)
        rw [apprD_no hz] at AP
        rw [hf] at IT
        generalize apprE S D zb zn = e9 at *
        clear PR RF CP hz hf
        rcases hm45 with rfl | rfl
        all_goals
          go_wp2_with (first | go_big_skip | (first | go_big_skip | ((with_reducible apply wpList_loadAll HO); exact rfl; exact rfl; (repeat (with_reducible (first | exact At.head _ | apply At.tail))); infer_instance; exact rfl; exact rfl; (simp only [Act.put, zA, zB, zC])) | ((with_reducible apply wpList_loadOne HO); exact rfl; exact rfl; (repeat (with_reducible (first | exact At.head _ | apply At.tail))); exact rfl; infer_instance; exact rfl; (simp only [Act.put, zA, zB, zC]))) | ((with_reducible apply wpList_storeAll HO); exact rfl; exact rfl; exact rfl; (repeat (with_reducible (first | exact At.head _ | apply At.tail))); infer_instance; exact rfl; exact rfl; exact rfl; exact rfl; clear HO; intro w HO; (simp only [Act.put])) | (first | ((with_reducible apply wpList_boxAgg _ HO rfl); exact rfl; exact rfl; exact rfl; clear HO; intro b12 w HO; (simp only [Act.put, zA, zB, zC])) | ((with_reducible apply wpList_allocAgg _ HO rfl); exact rfl; infer_instance; exact rfl; clear HO; intro b12 w HO; (simp only [Act.put, zA, zB, zC]))) | (go_at_call 46; go_must ((with_reducible refine (IT.out _ [_] HO).mono ?_); rintro e w ⟨rfl, hb⟩; replace HO := HO.call hb; clear hb)) | (go_at_call 47; go_must ((have h9 := AP.out _ [_, _] HO); (with_reducible refine h9.mono ?_); clear h9 HO; rintro e w ⟨rfl, u8, HO⟩; simp only [List.cons_append, List.nil_append] at HO)))
          replace HO := HO.tail.tail
          go_roundw
          case rel => exact ⟨j + 1, ⟨y.t, yv, yk, u8, ypm, ybm⟩, ⟨a.c, av, ak, au, apm, abm⟩, S, i', A, D, ss, by omega, by go_num, rfl, rfl, HS.out, by omega, HAA.out, HDD.out, by omega, HSS.out, HO⟩
          case measure => simp [intOf] <;> omega
      · obtain ⟨jj, hjj, hzn, hs1, hat, hnb, hDe, hok', hin1, hin2, hwi⟩ := appr_zero HDD.out HS.out.bk hz
        obtain ⟨hit1, hit2, hita, -, -⟩ := HDD.out.it _ (List.getElem_mem hjj)
        obtain ⟨q9, hq9⟩ : ∃ q9 : Nat, D.I[jj].o = (q9 : Int) := ⟨D.I[jj].o.toNat, by omega⟩
        have hS2 := HSS.out.appr hjj hs1 hq9
        have hcell : (arrC ss)[q9]? = some (.int .i64 (wsum (q9 : Int) D.I)) := by
          unfold arrC
          rw [List.getElem?_map, HSS.out.2 q9 (by omega) (by omega)]
          rfl
        have hset : arrC (ss.set q9 (wsum (q9 : Int) D.I + D.I[jj].a)) = (arrC ss).set q9 (.int .i64 (wsum (q9 : Int) D.I + D.I[jj].a)) := by unfold arrC; rw [List.map_set]
        have hlen61 : (arrC ss).length = 61 := by unfold arrC; rw [List.length_map]; exact HSS.out.1
        have hDl := apprD_len S D zb zn
        have IT2 := fun (w : World) (yu' : Value) (X : List Ent) (h : Own W w (X ++ (dkPs ⟨y.t, yv, yk, yu', ypm, ybm⟩ (apprD S D zb zn) ++ (arrE b9 ss :: (coPs ⟨a.c, av, ak, au, apm, abm⟩ S i' A ++ (inPs i' A ++ M)))))) => dkItem_any (Own.dkAt h (dk_mem X ⟨y.t, yv, yk, yu', ypm, ybm⟩ (apprD S D zb zn) (arrE b9 ss :: (coPs ⟨a.c, av, ak, au, apm, abm⟩ S i' A ++ (inPs i' A ++ M))))) k3
        have hat2 : itemAt (apprD S D zb zn).I zn = some { D.I[jj] with s := 2 } := by
          rw [hDe]
          rw [itemAt_yes hzn (by simpa using hjj)]
          simp
        rw [hat2] at IT2
        rw [hat] at IT
        rw [hz] at AP
        rw [hq9] at hin1 hin2 hwi hit1 hit2
        have BC := fun (w : World) (h : CoAt w ⟨a.c, av, ak, au, apm, abm⟩ S i' A) => coBal_any h (n := 1) (o := (q9 : Int)) rfl (inI_iff.2 (by omega))
        have hbin := HS.out.bk.bal_in 1 (q9 : Int)
        have hwin := HDD.out.bk.bal_in 4 (q9 : Int)
        rw [HDD.out.b4 (q9 : Int) (by omega)] at hwin
        have hI2 : (apprD S D zb zn).I = D.I.set jj { D.I[jj] with s := 2 } := by rw [hDe]
        rw [← hI2] at hS2
        have hbk : ∀ e ∈ coPs ⟨a.c, av, ak, au, apm, abm⟩ S i' A, e ∈ (arrE b9 ss :: (coPs ⟨a.c, av, ak, au, apm, abm⟩ S i' A ++ (inPs i' A ++ M))) := fun e he => .tail _ (List.mem_append_left _ he)
        have CO := Lib.hid (fun (w : World) (L : List Ent) (h : Own W w L) (hm : ∀ e ∈ coPs ⟨a.c, av, ak, au, apm, abm⟩ S i' A, e ∈ L) => (Own.coAt h (hm _ (.head _)) (hm _ (.tail _ (.head _))) (hm _ (.tail _ (.tail _ (.head _)))) : CoAt w ⟨a.c, av, ak, au, apm, abm⟩ S i' A))
        have SB := fun w => mSub_any hbin hwin w
        have MA := fun w => mAdd_any hwin hita w
        rw [subI_yes hin1] at SB
        rw [addI_yes hin2] at MA
        obtain ⟨hw0, hwp, hwn⟩ := within_ne hwi
        generalize hDX : apprD S D zb zn = DX at *
        generalize D.I[jj] = z1 at *
        obtain ⟨wb, wo, wa, ws⟩ := z1
        simp only at hq9 hs1 hnb hita hw0 hwp hwn
        subst hq9 hs1
        simp only [itemR, itemV] at IT IT2
        simp only at SB MA BC hS2 hset
        generalize bal S.P 1 (q9 : Int) - wsum (q9 : Int) D.I = lf at *
        generalize bal S.P 1 (q9 : Int) = bl at *
        generalize wsum (q9 : Int) D.I = s9 at *
        have dnb : (wb == zb) = false := by simpa using hnb
        have d0 : (wa == 0) = false := by simpa using hw0
        have do1 : decide ((q9 : Int) < 1) = false := decide_eq_false (by omega)
        have do2 : decide ((60 : Int) < (q9 : Int)) = false := decide_eq_false (by omega)
        have HC := Lib.hid hcell
        have HE := Lib.hid hset
        have HK := Lib.hid hok'
        have HS2 := Lib.hid hS2
        have hq61 : q9 < 61 := by omega
        have hlc : q9 < (arrC ss).length := by omega
        clear hcell hset hok' hS2 hDX hDe hI2 hat hat2 hzn hin1 hin2 hwi hbin hwin hz hnb hlen61 hbk PR RF CP
        have hsg : (decide ((0 : Int) < wa) = true ∧ decide (lf < wa) = false ∧ decide (wa < 0) = false) ∨ (decide ((0 : Int) < wa) = false ∧ decide (wa < 0) = true ∧ decide (wa < lf) = false) := by
          by_cases h : 0 < wa
          · exact .inl ⟨decide_eq_true h, decide_eq_false (by have := hwp h; omega), decide_eq_false (by omega)⟩
          · have h' : wa < 0 := by omega
            exact .inr ⟨decide_eq_false h, decide_eq_true h', decide_eq_false (by have := hwn h'; omega)⟩
        clear hw0 hwp hwn
        rcases hm45 with rfl | rfl
        all_goals
          go_upto_region 18 with (first | go_big_skip | (first | go_big_skip | ((with_reducible apply wpList_loadAll HO); exact rfl; exact rfl; (repeat (with_reducible (first | exact At.head _ | apply At.tail))); infer_instance; exact rfl; exact rfl; (simp only [Act.put, zA, zB, zC])) | ((with_reducible apply wpList_loadOne HO); exact rfl; exact rfl; (repeat (with_reducible (first | exact At.head _ | apply At.tail))); exact rfl; infer_instance; exact rfl; (simp only [Act.put, zA, zB, zC]))) | ((with_reducible apply wpList_storeAll HO); exact rfl; exact rfl; exact rfl; (repeat (with_reducible (first | exact At.head _ | apply At.tail))); infer_instance; exact rfl; exact rfl; exact rfl; exact rfl; clear HO; intro w HO; (simp only [Act.put])) | (first | ((with_reducible apply wpList_boxAgg _ HO rfl); exact rfl; exact rfl; exact rfl; clear HO; intro b12 w HO; (simp only [Act.put, zA, zB, zC])) | ((with_reducible apply wpList_allocAgg _ HO rfl); exact rfl; infer_instance; exact rfl; clear HO; intro b12 w HO; (simp only [Act.put, zA, zB, zC]))) | (go_at_call 46; go_must ((with_reducible refine (IT.out _ [_] HO).mono ?_); rintro e w ⟨rfl, hb⟩; replace HO := HO.call hb; clear hb)) | (go_at_call 47; go_must ((have h9 := AP.out _ [_, _] HO); (with_reducible refine h9.mono ?_); clear h9 HO; rintro e w ⟨rfl, u8, HO⟩; simp only [List.cons_append, List.nil_append] at HO)))
          go_upto_region 21 with (first | go_big_skip | (first | go_big_skip | ((with_reducible apply wpList_loadAll HO); exact rfl; exact rfl; (repeat (with_reducible (first | exact At.head _ | apply At.tail))); infer_instance; exact rfl; exact rfl; (simp only [Act.put, zA, zB, zC])) | ((with_reducible apply wpList_loadOne HO); exact rfl; exact rfl; (repeat (with_reducible (first | exact At.head _ | apply At.tail))); exact rfl; infer_instance; exact rfl; (simp only [Act.put, zA, zB, zC]))) | ((with_reducible apply wpList_storeAll HO); exact rfl; exact rfl; exact rfl; (repeat (with_reducible (first | exact At.head _ | apply At.tail))); infer_instance; exact rfl; exact rfl; exact rfl; exact rfl; clear HO; intro w HO; (simp only [Act.put])) | (first | ((with_reducible apply wpList_boxAgg _ HO rfl); exact rfl; exact rfl; exact rfl; clear HO; intro b14 w HO; (simp only [Act.put, zA, zB, zC])) | ((with_reducible apply wpList_allocAgg _ HO rfl); exact rfl; infer_instance; exact rfl; clear HO; intro b14 w HO; (simp only [Act.put, zA, zB, zC]))) | (go_at_call 46; go_must ((with_reducible refine (IT2 _ _ [_, _] HO).mono ?_); rintro e w ⟨rfl, hb⟩; replace HO := HO.call hb; clear hb)))
          replace HO := HO.perm (dk_arr3 _ _ _ _ _ _)
          unfold arrE at HO
          have CM := fun (w : World) (Z1 Z2 Z3 Z4 : Ent) (K : List Ent) (h : Own W w (Z1 :: Z2 :: Z3 :: Z4 :: (K ++ (coPs ⟨a.c, av, ak, au, apm, abm⟩ S i' A ++ (inPs i' A ++ M))))) => BC w (CO.out w _ h (fun e he => .tail _ (.tail _ (.tail _ (.tail _ (List.mem_append_right _ (List.mem_append_left _ he)))))))
          replace CM := Lib.hid CM
          refine region_own HO (by kernel_rfl) (by kernel_rfl) ?_
          clear HO
          intro F HF
          repeat (first | (first | (first | go_big_quiet_skip | ((with_reducible apply wpQuiet_loadAll HF); exact rfl; exact rfl; (repeat (with_reducible (first | exact At.head _ | apply At.tail))); infer_instance; exact rfl; exact rfl; (simp only [Act.put, zA, zB, zC])) | ((with_reducible apply wpQuiet_loadOne HF); exact rfl; exact rfl; (repeat (with_reducible (first | exact At.head _ | apply At.tail))); exact rfl; infer_instance; exact rfl; (simp only [Act.put, zA, zB, zC])) | ((with_reducible apply wpQuiet_loadPart HF); exact rfl; exact rfl; (repeat (with_reducible (first | exact At.head _ | apply At.tail))); infer_instance; exact (Nat.le_of_ble_eq_true rfl); (simp only [List.drop_succ_cons, List.drop_zero, List.take_succ_cons, List.take_zero]; rfl); exact rfl; (simp only [Act.put, zA, zB, zC]))) | ((with_reducible apply wpQuiet_loadOne HF); exact rfl; exact rfl; (repeat (with_reducible (first | exact At.head _ | apply At.tail))); exact HC.out; infer_instance; exact rfl; (simp only [Act.put, zA, zB, zC]))) | go_big_quiet_step ((first | (go_at_call 50; (with_reducible exact calls_fam HF (CM.out _ _ _ _ _ _ (HF.own _)))) | (go_at_call 49; (with_reducible exact calls_fam HF (SB _))))))
          refine wpQuiet_nil ?_
          intro x
          have HO := HF.own x
          clear HF
          generalize F x = w at *
          clear x F
          go_upto_region 22 with (first | go_big_skip)
          refine region_own HO (by kernel_rfl) (by kernel_rfl) ?_
          clear HO
          intro F HF
          repeat (first | (first | (first | go_big_quiet_skip | ((with_reducible apply wpQuiet_loadAll HF); exact rfl; exact rfl; (repeat (with_reducible (first | exact At.head _ | apply At.tail))); infer_instance; exact rfl; exact rfl; (simp only [Act.put, zA, zB, zC])) | ((with_reducible apply wpQuiet_loadOne HF); exact rfl; exact rfl; (repeat (with_reducible (first | exact At.head _ | apply At.tail))); exact rfl; infer_instance; exact rfl; (simp only [Act.put, zA, zB, zC])) | ((with_reducible apply wpQuiet_loadPart HF); exact rfl; exact rfl; (repeat (with_reducible (first | exact At.head _ | apply At.tail))); infer_instance; exact (Nat.le_of_ble_eq_true rfl); (simp only [List.drop_succ_cons, List.drop_zero, List.take_succ_cons, List.take_zero]; rfl); exact rfl; (simp only [Act.put, zA, zB, zC]))) | ((with_reducible apply wpQuiet_loadOne HF); exact rfl; exact rfl; (repeat (with_reducible (first | exact At.head _ | apply At.tail))); exact HC.out; infer_instance; exact rfl; (simp only [Act.put, zA, zB, zC]))) | go_big_quiet_step ((go_at_call 51; (with_reducible exact calls_fam HF (MA _)))))
          refine wpQuiet_nil ?_
          intro x
          have HO := HF.own x
          clear HF
          generalize F x = w at *
          clear x F
          rcases hsg with ⟨g1, g2, g3⟩ | ⟨g1, g2, g3⟩
          all_goals
            go_wp2_with (first | go_big_skip | (first | go_big_skip | ((with_reducible apply wpList_loadAll HO); exact rfl; exact rfl; (repeat (with_reducible (first | exact At.head _ | apply At.tail))); infer_instance; exact rfl; exact rfl; (simp only [Act.put, zA, zB, zC])) | ((with_reducible apply wpList_loadOne HO); exact rfl; exact rfl; (repeat (with_reducible (first | exact At.head _ | apply At.tail))); exact rfl; infer_instance; exact rfl; (simp only [Act.put, zA, zB, zC]))) | ((with_reducible apply wpList_storeOne HO); exact rfl; exact rfl; (first | (simp [Act.eval]; rfl) | exact rfl); exact rfl; (repeat (with_reducible (first | exact At.head _ | apply At.tail))); infer_instance; exact (hlc); exact rfl; exact rfl; clear HO; intro w HO; (simp only [Act.put])))
            rw [← HE.out] at HO
            have HO2 := HO.tail.tail.tail
            have HO3 : Own W _ (dkPs ⟨y.t, yv, yk, u8, ypm, ybm⟩ DX ++ (arrE b9 (ss.set q9 (s9 + wa)) :: (coPs ⟨a.c, av, ak, au, apm, abm⟩ S i' A ++ (inPs i' A ++ M)))) := HO2.perm (List.perm_middle (l₁ := dkPs ⟨y.t, yv, yk, u8, ypm, ybm⟩ DX)).symm
            clear HO HO2
            go_roundw
            case rel => exact ⟨j + 1, ⟨y.t, yv, yk, u8, ypm, ybm⟩, ⟨a.c, av, ak, au, apm, abm⟩, S, i', A, DX, ss.set q9 (s9 + wa), by omega, by go_num, rfl, rfl, HS.out, by omega, HAA.out, HK.out, by omega, HS2.out, HO3⟩
            case measure => simp [intOf] <;> omega
    · have d4 : (m == 4) = false := by simpa using n4
      have d5 : (m == 5) = false := by simpa using n5
      have d6 : (m == 6) = false := by simpa using n6
      have d7 : (m == 7) = false := by simpa using n7
      clear RF AP CP IT n4 n5 n6 n7
      have h2 := Lib.hid (propI_ok (x := ⟨ib, io, ia, is⟩) HDD.out HS.out.len k6)
      have h3 := Lib.hid (HSS.out.prop (S := S) (x := ⟨ib, io, ia, is⟩))
      generalize propE S D.I ⟨ib, io, ia, is⟩ = e9 at *
      generalize propN S D.I ⟨ib, io, ia, is⟩ = n9 at *
      generalize propI S D.I ⟨ib, io, ia, is⟩ = I9 at *
      go_wp2_with (first | go_big_skip | (first | go_big_skip | ((with_reducible apply wpList_loadAll HO); exact rfl; exact rfl; (repeat (with_reducible (first | exact At.head _ | apply At.tail))); infer_instance; exact rfl; exact rfl; (simp only [Act.put, zA, zB, zC])) | ((with_reducible apply wpList_loadOne HO); exact rfl; exact rfl; (repeat (with_reducible (first | exact At.head _ | apply At.tail))); exact rfl; infer_instance; exact rfl; (simp only [Act.put, zA, zB, zC]))) | ((with_reducible apply wpList_loadPart HO); exact rfl; exact rfl; (repeat (with_reducible (first | exact At.head _ | apply At.tail))); infer_instance; exact (Nat.le_of_ble_eq_true rfl); (simp only [List.drop_succ_cons, List.drop_zero, List.take_succ_cons, List.take_zero]; rfl); exact rfl; (simp only [Act.put, zA, zB, zC])) | (go_at_call 42; go_must ((have h9 := PR.out _ [_] HO); (with_reducible refine h9.mono ?_); clear h9 HO; rintro e w ⟨rfl, v8, HO⟩; simp only [List.cons_append, List.nil_append] at HO)))
      replace HO := HO.tail
      go_roundw
      case rel => exact ⟨j + 1, ⟨y.t, v8, yk, yu, ypm, ybm⟩, ⟨a.c, av, ak, au, apm, abm⟩, S, i', A, ⟨I9, D.P⟩, ss, by omega, by go_num, rfl, rfl, HS.out, by omega, HAA.out, h2.out, (by show D.P.length ≤ j + 1; omega), h3.out, HO⟩
      case measure => simp [intOf] <;> omega
end Go.Proofs.YtibabfedpdoofaaGreatDoor

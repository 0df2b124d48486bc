/-
  An item approved, by walking the program's text; conditions: the core is one that entries come to, the laid tables.
  The chapter's desk, by walking the law's text; conditions: the laid tables.
  Acts in memory, whether they are more than is gone through; by walking the law's text; conditions: the acts lie in memory.
  Acts and bytes that came in, opened; conditions: none.
-/
import Derived.Lib.ItoaLen
import Derived.Test.YtibabfedpdoofaaGreatDoorQa1
import Derived.Test.YtibabfedpdoofaaGreatDoorQa8
import Derived.Test.YtibabfedpdoofaaGreatDoorQa13
import Derived.Test.YtibabfedpdoofaaGreatDoorQb1
import Derived.Test.YtibabfedpdoofaaGreatDoorQc1
namespace Go.Proofs.YtibabfedpdoofaaGreatDoor
open Go.RowKit Go.Own Go.Maps

set_option maxHeartbeats 4000000 in
theorem mNeg_any {a : Int} (ha : inI a = true) (w : World) : Calls Tryz.prog 110 #[.int .i64 a] w fun e w' => e = .returned (.tuple #[.int .i64 (subI 0 a).1, .bool (subI 0 a).2]) ∧ Below w.heap.size w w' := by
  have HO := Own.start w
  have SB := fun w => mSub_any (a := 0) rfl ha w
  generalize subI 0 a = r at *
  obtain ⟨r1, r2⟩ := r
  simp only at SB
  go_enter Tryz.func110, Tryz.ntmps110
  go_wp2_with (first | (go_at_call 49; go_must ((with_reducible refine (SB _).mono ?_); rintro e w ⟨rfl, hb⟩; replace HO := HO.call hb; clear hb)))
  go_ret2
  exact ⟨rfl, HO.grown⟩
theorem appr_pend {S : CoS} {D : DkS} {b : List UInt8} {n : Int} (h : pendE D.I b n ≠ 0) : apprE S D b n = pendE D.I b n ∧ apprD S D b n = D := by
  have e : apprE S D b n = pendE D.I b n := by unfold apprE; rw [if_neg h]
  exact ⟨e, by unfold apprD; rw [if_neg (by rw [e]; exact h)]⟩
theorem appr_at {S : CoS} {D : DkS} {b : List UInt8} {n : Int} {z : ItemS} (h : pendE D.I b n = 0) (hx : itemAt D.I n = some z) : apprE S D b n = apprX S D b n z := by unfold apprE; rw [if_pos h, hx]
theorem apprD_no {S : CoS} {D : DkS} {b : List UInt8} {n : Int} (h : apprE S D b n ≠ 0) : apprD S D b n = D := by unfold apprD; rw [if_neg h]
theorem apprD_yes {S : CoS} {D : DkS} {b : List UInt8} {n : Int} {z : ItemS} (h : apprE S D b n = 0) (hx : itemAt D.I n = some z) : apprD S D b n = ⟨setI D.I n z 2, postL D.P (wPst n z)⟩ := by unfold apprD; rw [if_pos h, hx]
theorem postL_no {l : List Pst} {p : Pst} (h : postE l p ≠ 0) : postL l p = l := by
  unfold postE at h
  unfold postL
  by_cases hm : mayPst p = true
  · rw [if_pos hm] at h
    cases hf : findP l p.id with
    | some q => rw [if_neg (by simp)]
    | none =>
      rw [hf] at h
      simp only at h
      by_cases hg : fitsPst l p = true
      · rw [if_pos hg] at h; exact absurd rfl h
      · rw [if_neg (by rw [hm]; simpa using hg)]
  · rw [if_neg (by simp [hm])]
theorem wPst_eq (n : Int) (b : List UInt8) (o a s : Int) : wPst n ⟨b, o, a, s⟩ = if a < 0 then ⟨wK n, o, 1, 4, -a⟩ else ⟨wK n, o, 4, 1, a⟩ := rfl

set_option maxHeartbeats 32000000 in
set_option maxRecDepth 100000 in
theorem dkAppr_any {W w : World} {M : List Ent} {x : DkA} {D : DkS} {a : CoA} {S : CoS} {i : InA} {A : InS} {b : List UInt8} {n : Int} (HO : Own W w (dkPs x D ++ M)) (hm : ∀ e ∈ coPs a S i A, e ∈ M) (hI : ItOk D.I) (hBk : Bk D.P) (hB : Bk S.P) (hb : b.length ≤ maxLen) (hi : inI n = true) (hlen : D.P.length ≤ 99000) (hl1 : D.I.length ≤ 1000) (hL : LaidE W) :
    Calls Tryz.prog 47 #[.pointer (some ⟨x.t, 0, none⟩), .pointer (some ⟨a.c, 0, none⟩), .string ⟨b.toArray⟩, .int .i64 n] w fun e w' => e = .returned (.int .i64 (apprE S D b n)) ∧ ∃ u', Own W w' (dkPs { x with u := u' } (apprD S D b n) ++ M) := by
  obtain ⟨t, v, k, u, pm, bm⟩ := x
  have PD := Lib.hid (fun (w : World) (L : List Ent) (h : Own W w L) (hm : ∀ e ∈ dkPs ⟨t, v, k, u, pm, bm⟩ D, e ∈ L) => dkPend_any (Own.dkAt h hm) hb hi)
  simp only at PD ⊢
  by_cases hz : pendE D.I b n = 0
  rotate_left
  · obtain ⟨e1, e2⟩ := appr_pend (S := S) hz
    rw [e1, e2]
    have hd : (pendE D.I b n != 0) = true := by rw [bne_iff_ne]; exact hz
    generalize pendE D.I b n = e9 at *
    clear hz e1 e2
    go_enter Tryz.func47, Tryz.ntmps47
    go_wp2_with (first | go_big_skip | (go_at_call 107; go_must ((with_reducible refine (PD.out _ _ HO (dk_in [] _ _ _)).mono ?_); rintro e w ⟨rfl, hb⟩; replace HO := HO.call hb; clear hb)))
    go_ret
    exact ⟨rfl, _, HO⟩
  obtain ⟨_, j, hj, hn, hs1, hat⟩ := pend_zero hz
  have hE := appr_at (S := S) hz hat
  have hNo := apprD_no (S := S) (D := D) (b := b) (n := n)
  have hYe := fun h => apprD_yes (S := S) (D := D) (b := b) (n := n) h hat
  rw [hz] at PD
  have hset := dk_set D.I hj 2
  have hS2 : setI D.I n D.I[j] 2 = D.I.set j { D.I[j] with s := 2 } := by unfold setI; rw [show (n - 1).toNat = j by omega]
  have HG : (D.I.map itemC)[j]? = some (itemC D.I[j]) := by simp [hj]
  obtain ⟨hzo, hza, -, -⟩ := hI _ (List.getElem_mem hj)
  have hIn := inI_iff.1 hi
  have hjI : (j : Int) < (D.I.length : Int) := by omega
  have e1 : IntKind.i64.wrap (n - 1) = (j : Int) := by rw [show n - 1 = (j : Int) by omega, wrap_in (inI_iff.2 (by omega))]
  have ITO := fun (w : World) (hb : Below W.heap.size W w) => itoaK_any n hIn.1 hIn.2 (hL.below hb)
  have hix : (⟨(Lib.itoa n).toArray⟩ : ByteArray).size ≤ 21 := by
    have := Lib.itoa_length_le n hIn.1 hIn.2
    show (Lib.itoa n).toArray.size ≤ 21
    simpa using this
  have hwk : wK n = (⟨#[119]⟩ : ByteArray) ++ ⟨(Lib.itoa n).toArray⟩ := rfl
  have hapx : apprX S D b n D.I[j] = if D.I[j].b = b then 91 else if (leftF D.I (bal S.P 1 D.I[j].o) D.I[j].o writS).2 = true ∧ withinB D.I[j].a (leftF D.I (bal S.P 1 D.I[j].o) D.I[j].o writS).1 = true then (if D.I[j].a = -9223372036854775808 then 90 else postE D.P (wPst n D.I[j])) else 90 := rfl
  rw [hapx] at hE
  have HO1 : Own W w (box t (.cells #[v, .pointer (some ⟨k, 0, none⟩)] 96) :: row 82 4 v (D.I.map itemC) :: bkE k u pm bm D.P :: M) := HO
  clear HO
  have HO := HO1
  clear HO1
  obtain ⟨q, c, hv⟩ := (HO.rowForm (t := 82) (k := 4) (v := v) (by (repeat (with_reducible (first | exact At.head _ | apply At.tail))))).2 (by rw [List.length_map]; omega)
  rw [List.length_map] at hv
  subst hv
  have PD' := Lib.hid (fun (w : World) (h : Own W w (box t (.cells #[.slice (some q) D.I.length c, .pointer (some ⟨k, 0, none⟩)] 96) :: row 82 4 (.slice (some q) D.I.length c) (D.I.map itemC) :: bkE k u pm bm D.P :: M)) => PD.out w _ h (dk_in [] ⟨t, .slice (some q) D.I.length c, k, u, pm, bm⟩ D M))
  have DA := Lib.hid (fun (w : World) (X : List Ent) (h : Own W w (X ++ (box t (.cells #[.slice (some q) D.I.length c, .pointer (some ⟨k, 0, none⟩)] 96) :: row 82 4 (.slice (some q) D.I.length c) (D.I.map itemC) :: bkE k u pm bm D.P :: M))) => (Own.dkAt h (dk_in X ⟨t, .slice (some q) D.I.length c, k, u, pm, bm⟩ D M) : DkAt w ⟨t, .slice (some q) D.I.length c, k, u, pm, bm⟩ D))
  have CA := Lib.hid (fun (w : World) (X : List Ent) (h : Own W w (X ++ (box t (.cells #[.slice (some q) D.I.length c, .pointer (some ⟨k, 0, none⟩)] 96) :: row 82 4 (.slice (some q) D.I.length c) (D.I.map itemC) :: bkE k u pm bm D.P :: M))) => (Own.coAt h (List.mem_append_right _ (.tail _ (.tail _ (.tail _ (hm _ (.head _)))))) (List.mem_append_right _ (.tail _ (.tail _ (.tail _ (hm _ (.tail _ (.head _))))))) (List.mem_append_right _ (.tail _ (.tail _ (.tail _ (hm _ (.tail _ (.tail _ (.head _)))))))) : CoAt w a S i A))
  have RW := fun (w' : World) (h1 : Own W w' (box t (.cells #[.slice (some q) D.I.length c, .pointer (some ⟨k, 0, none⟩)] 96) :: row 82 4 (.slice (some q) D.I.length c) (D.I.map itemC) :: bkE k u pm bm D.P :: M)) => h1.rowAt (.tail _ _ _ (.head _)) (itemC_len D.I) HG
  have hg := leftF_in D.I D.I[j].o writS (hB.bal_in 1 D.I[j].o)
  have PO := fun p (hp : WfP p) (w : World) (L : List Ent) (L' : Value → List Ent) (h : Own W w L) hat => bkPost_any (W := W) (w := w) (L := L) (L' := L') (b := k) (v := u) (pm := pm) (bm := bm) (l := D.P) p h hat hBk hp (by omega)
  have hpn := fun p => postL_no (l := D.P) (p := p)
  have LW := fun (w : World) (o : Int) (ho : inI o = true) (h : DkAt w ⟨t, .slice (some q) D.I.length c, k, u, pm, bm⟩ D) (hc : CoAt w a S i A) => dkLeftWrit_any h hc hI hB ho
  have LW2 := LW
  clear LW
  rw [hS2] at hYe
  clear PD hi hn hS2 hapx hat hz hm hI hBk hB hs1
  have hwp := wPst_eq n
  generalize apprE S D b n = ex at *
  generalize apprD S D b n = DX at *
  generalize hzz : D.I[j] = z at *
  obtain ⟨zb, zo, za, zs⟩ := z
  have LW := Lib.hid (fun (w : World) => LW2 w zo hzo)
  have WI := fun w => within_any za (leftF D.I (bal S.P 1 zo) zo writS).1 w
  clear LW2
  simp only at hE hg hza hzo LW WI hYe
  generalize leftF D.I (bal S.P 1 zo) zo writS = g at *
  obtain ⟨g1, g2⟩ := g
  simp only at LW WI hE
  unfold itemC at RW
  simp only at RW
  have HE := Lib.hid hE
  have HN := Lib.hid hNo
  have HY := Lib.hid hYe
  have HS := Lib.hid hset
  have HGG := Lib.hid HG
  have HP := Lib.hid hwp
  have HK := Lib.hid hwk
  replace RW := Lib.hid RW
  replace PO := Lib.hid PO
  replace hpn := Lib.hid hpn
  replace hzz := Lib.hid hzz
  clear hE hNo hYe hset HG hwp hwk
  have hinl : (j : Int) ≤ 1000 := by omega
  by_cases hby : zb = b
  · have hD : (zb == b) = true := by simpa using hby
    rw [if_pos hby] at HE
    obtain rfl := HE.out
    obtain rfl := HN.out (by decide)
    clear HE HN HY HS HGG HP HK PO hby WI
    go_enter Tryz.func47, Tryz.ntmps47
    go_wp2_with (first | go_big_skip | (first | go_big_skip | ((with_reducible apply wpList_loadAll HO); exact rfl; exact rfl; (repeat (with_reducible (first | exact At.head _ | apply At.tail))); infer_instance; exact rfl; exact rfl; (simp only [Act.put, zA, zB, zC])) | ((with_reducible apply wpList_loadOne HO); exact rfl; exact rfl; (repeat (with_reducible (first | exact At.head _ | apply At.tail))); exact rfl; infer_instance; exact rfl; (simp only [Act.put, zA, zB, zC]))) | ((with_reducible apply wpList_storeAll HO); exact rfl; exact rfl; exact rfl; (repeat (with_reducible (first | exact At.head _ | apply At.tail))); infer_instance; exact rfl; exact rfl; exact rfl; exact rfl; clear HO; intro w HO; (simp only [Act.put])) | (first | ((with_reducible apply wpList_boxAgg _ HO rfl); exact rfl; exact rfl; exact rfl; clear HO; intro b10 w HO; (simp only [Act.put, zA, zB, zC])) | ((with_reducible apply wpList_allocAgg _ HO rfl); exact rfl; infer_instance; exact rfl; clear HO; intro b10 w HO; (simp only [Act.put, zA, zB, zC]))) | ((with_reducible apply wpList_loadAt HO); exact rfl; exact rfl; exact (fun w' h1 => RW.out w' h1); infer_instance; exact rfl; exact rfl; (simp only [Act.put, zA, zB, zC])) | (go_at_call 107; go_must ((with_reducible refine (PD'.out _ HO).mono ?_); rintro e w ⟨rfl, hb⟩; replace HO := HO.call hb; clear hb)) | (go_at_call 102; go_must ((with_reducible refine (LW.out _ (DA.out _ [_] HO) (CA.out _ [_] HO)).mono ?_); rintro e w ⟨rfl, hb⟩; replace HO := HO.call hb; clear hb)))
    go_ret
    exact ⟨rfl, _, HO.tail⟩
  rw [if_neg hby] at HE
  have hD : (zb == b) = false := by simpa using hby
  cases g2
  · rw [if_neg (by simp)] at HE
    obtain rfl := HE.out
    obtain rfl := HN.out (by decide)
    clear HE HN HY HS HGG HP HK PO hby WI
    go_enter Tryz.func47, Tryz.ntmps47
    go_wp2_with (first | go_big_skip | (first | go_big_skip | ((with_reducible apply wpList_loadAll HO); exact rfl; exact rfl; (repeat (with_reducible (first | exact At.head _ | apply At.tail))); infer_instance; exact rfl; exact rfl; (simp only [Act.put, zA, zB, zC])) | ((with_reducible apply wpList_loadOne HO); exact rfl; exact rfl; (repeat (with_reducible (first | exact At.head _ | apply At.tail))); exact rfl; infer_instance; exact rfl; (simp only [Act.put, zA, zB, zC]))) | ((with_reducible apply wpList_storeAll HO); exact rfl; exact rfl; exact rfl; (repeat (with_reducible (first | exact At.head _ | apply At.tail))); infer_instance; exact rfl; exact rfl; exact rfl; exact rfl; clear HO; intro w HO; (simp only [Act.put])) | (first | ((with_reducible apply wpList_boxAgg _ HO rfl); exact rfl; exact rfl; exact rfl; clear HO; intro b10 w HO; (simp only [Act.put, zA, zB, zC])) | ((with_reducible apply wpList_allocAgg _ HO rfl); exact rfl; infer_instance; exact rfl; clear HO; intro b10 w HO; (simp only [Act.put, zA, zB, zC]))) | ((with_reducible apply wpList_loadAt HO); exact rfl; exact rfl; exact (fun w' h1 => RW.out w' h1); infer_instance; exact rfl; exact rfl; (simp only [Act.put, zA, zB, zC])) | (go_at_call 107; go_must ((with_reducible refine (PD'.out _ HO).mono ?_); rintro e w ⟨rfl, hb⟩; replace HO := HO.call hb; clear hb)) | (go_at_call 102; go_must ((with_reducible refine (LW.out _ (DA.out _ [_] HO) (CA.out _ [_] HO)).mono ?_); rintro e w ⟨rfl, hb⟩; replace HO := HO.call hb; clear hb)))
    go_ret
    exact ⟨rfl, _, HO.tail⟩
  cases hw : withinB za g1
  · rw [if_neg (by rw [hw]; simp)] at HE
    rw [hw] at WI
    obtain rfl := HE.out
    obtain rfl := HN.out (by decide)
    clear HE HN HY HS HGG HP HK PO hby hw
    go_enter Tryz.func47, Tryz.ntmps47
    go_wp2_with (first | go_big_skip | (first | go_big_skip | ((with_reducible apply wpList_loadAll HO); exact rfl; exact rfl; (repeat (with_reducible (first | exact At.head _ | apply At.tail))); infer_instance; exact rfl; exact rfl; (simp only [Act.put, zA, zB, zC])) | ((with_reducible apply wpList_loadOne HO); exact rfl; exact rfl; (repeat (with_reducible (first | exact At.head _ | apply At.tail))); exact rfl; infer_instance; exact rfl; (simp only [Act.put, zA, zB, zC]))) | ((with_reducible apply wpList_storeAll HO); exact rfl; exact rfl; exact rfl; (repeat (with_reducible (first | exact At.head _ | apply At.tail))); infer_instance; exact rfl; exact rfl; exact rfl; exact rfl; clear HO; intro w HO; (simp only [Act.put])) | (first | ((with_reducible apply wpList_boxAgg _ HO rfl); exact rfl; exact rfl; exact rfl; clear HO; intro b10 w HO; (simp only [Act.put, zA, zB, zC])) | ((with_reducible apply wpList_allocAgg _ HO rfl); exact rfl; infer_instance; exact rfl; clear HO; intro b10 w HO; (simp only [Act.put, zA, zB, zC]))) | ((with_reducible apply wpList_loadAt HO); exact rfl; exact rfl; exact (fun w' h1 => RW.out w' h1); infer_instance; exact rfl; exact rfl; (simp only [Act.put, zA, zB, zC])) | (go_at_call 107; go_must ((with_reducible refine (PD'.out _ HO).mono ?_); rintro e w ⟨rfl, hb⟩; replace HO := HO.call hb; clear hb)) | (go_at_call 102; go_must ((with_reducible refine (LW.out _ (DA.out _ [_] HO) (CA.out _ [_] HO)).mono ?_); rintro e w ⟨rfl, hb⟩; replace HO := HO.call hb; clear hb)) | (go_at_call 106; go_must ((with_reducible refine (WI _).mono ?_); rintro e w ⟨rfl, hb⟩; replace HO := HO.call hb; clear hb)))
    go_ret
    exact ⟨rfl, _, HO.tail⟩
  rw [if_pos ⟨rfl, hw⟩] at HE
  rw [hw] at WI
  clear hw hby
  obtain ⟨wid, hwid⟩ : ∃ x, x = wK n := ⟨_, rfl⟩
  rw [← hwid] at HK HP
  generalize (⟨(Lib.itoa n).toArray⟩ : ByteArray) = x1 at *
  have hws : wid.size ≤ maxLen := by
    rw [HK.out, ByteArray.size_append]
    show 1 + x1.size ≤ maxLen
    unfold maxLen
    omega
  have a1 : ¬ (9223372036854775807 < (⟨#[119]⟩ : ByteArray).size + x1.size) := by show ¬ (9223372036854775807 < 1 + x1.size); omega
  have a1' : ¬ (9223372036854775807 < 1 + x1.size) := by omega
  replace hwid := Lib.hid hwid
  go_enter Tryz.func47, Tryz.ntmps47
  go_upto_region 10 with (first | go_big_skip | (first | go_big_skip | ((with_reducible apply wpList_loadAll HO); exact rfl; exact rfl; (repeat (with_reducible (first | exact At.head _ | apply At.tail))); infer_instance; exact rfl; exact rfl; (simp only [Act.put, zA, zB, zC])) | ((with_reducible apply wpList_loadOne HO); exact rfl; exact rfl; (repeat (with_reducible (first | exact At.head _ | apply At.tail))); exact rfl; infer_instance; exact rfl; (simp only [Act.put, zA, zB, zC]))) | ((with_reducible apply wpList_storeAll HO); exact rfl; exact rfl; exact rfl; (repeat (with_reducible (first | exact At.head _ | apply At.tail))); infer_instance; exact rfl; exact rfl; exact rfl; exact rfl; clear HO; intro w HO; (simp only [Act.put])) | (first | ((with_reducible apply wpList_boxAgg _ HO rfl); exact rfl; exact rfl; exact rfl; clear HO; intro b10 w HO; (simp only [Act.put, zA, zB, zC])) | ((with_reducible apply wpList_allocAgg _ HO rfl); exact rfl; infer_instance; exact rfl; clear HO; intro b10 w HO; (simp only [Act.put, zA, zB, zC]))) | ((with_reducible apply wpList_loadAt HO); exact rfl; exact rfl; exact (fun w' h1 => RW.out w' h1); infer_instance; exact rfl; exact rfl; (simp only [Act.put, zA, zB, zC])) | (go_at_call 107; go_must ((with_reducible refine (PD'.out _ HO).mono ?_); rintro e w ⟨rfl, hb⟩; replace HO := HO.call hb; clear hb)) | (go_at_call 102; go_must ((with_reducible refine (LW.out _ (DA.out _ [_] HO) (CA.out _ [_] HO)).mono ?_); rintro e w ⟨rfl, hb⟩; replace HO := HO.call hb; clear hb)) | (go_at_call 106; go_must ((with_reducible refine (WI _).mono ?_); rintro e w ⟨rfl, hb⟩; replace HO := HO.call hb; clear hb)))
  clear PD' DA CA LW WI RW
  go_cut [13] (fun x wx => ∃ b13, x = .pointer (some ⟨b13, 0, none⟩) ∧ Own W wx (box b13 (.cells #[.string wid, .int .i64 zo, .int .i64 4, .int .i64 1, .int .i64 za] 187) :: box b10 (.cells #[.string ⟨zb.toArray⟩, .int .i64 zo, .int .i64 za, .int .i64 zs] 82) :: box t (.cells #[.slice (some q) D.I.length c, .pointer (some ⟨k, 0, none⟩)] 96) :: row 82 4 (.slice (some q) D.I.length c) (D.I.map itemC) :: bkE k u pm bm D.P :: M))
  case first =>
    refine region_tree ([box b10 (.cells #[.string ⟨zb.toArray⟩, .int .i64 zo, .int .i64 za, .int .i64 zs] 82)]) [(0, true), (3, true), (4, true), (5, true), (6, true), (1, false), (2, true), (7, true), (8, false), (9, false)] ((.fork [(0, true), (3, true), (4, true), (5, true), (6, true)] 1 8 (.fin [(2, true), (7, true), (8, false), (9, false)]) (.fin [(1, false), (2, true), (7, true), (9, false)]))) HO (by with_reducible (repeat (first | exact List.nil_sublist _ | apply List.Sublist.cons_cons | apply List.Sublist.cons))) (by kernel_rfl) (by kernel_rfl) ?_
    clear HO
    intro w HO
    refine wpS_fork ?_
    repeat (first | ((with_reducible apply wpSched_loadOne); exact rfl; exact rfl; exact rfl; (repeat (with_reducible (first | exact At.head _ | apply At.tail))); exact rfl; infer_instance; exact rfl; (simp only [Act.put, zA, zB, zC])) | ((with_reducible apply wpSched_loadAll); exact rfl; exact rfl; exact rfl; (repeat (with_reducible (first | exact At.head _ | apply At.tail))); infer_instance; exact rfl; exact rfl; (simp only [Act.put, zA, zB, zC])) | ((with_reducible apply wpSched_pure); exact rfl; exact rfl; (intro w'; go_simp; try with_reducible rfl); (simp only [Act.put, zA, zB, zC])))
    refine fork_end rfl rfl ?_ ?_
    · go_wp2_with ((go_at_call 109; go_must ((with_reducible refine (ITO _ HO.grown).mono ?_); rintro e w ⟨rfl, hb⟩; replace HO := HO.call hb; clear hb)))
      refine thenQ_keep (HO.held (by with_reducible (repeat (first | exact List.nil_sublist _ | apply List.Sublist.cons_cons | apply List.Sublist.cons)))) ?_
      refine wpS_fin ?_
      repeat (first | ((with_reducible apply wpSched_loadOne); exact rfl; exact rfl; exact rfl; (repeat (with_reducible (first | exact At.head _ | apply At.tail))); exact rfl; infer_instance; exact rfl; (simp only [Act.put, zA, zB, zC])) | ((with_reducible apply wpSched_loadAll); exact rfl; exact rfl; exact rfl; (repeat (with_reducible (first | exact At.head _ | apply At.tail))); infer_instance; exact rfl; exact rfl; (simp only [Act.put, zA, zB, zC])) | ((with_reducible apply wpSched_pure); exact rfl; exact rfl; (intro w'; go_simp; try with_reducible rfl); (simp only [Act.put, zA, zB, zC])))
      ((with_reducible apply wpSched_loud); exact rfl; (first | ((with_reducible apply wpList_boxAgg _ HO rfl); exact rfl; exact rfl; exact rfl; clear HO; intro b13 w HO; (simp only [Act.put, zA, zB, zC])) | ((with_reducible apply wpList_allocAgg _ HO rfl); exact rfl; infer_instance; exact rfl; clear HO; intro b13 w HO; (simp only [Act.put, zA, zB, zC])) | ((with_reducible apply wpList_boxOne _ HO rfl); exact rfl; (first | (simp [Act.eval]; rfl) | exact rfl); exact rfl; exact rfl; clear HO; intro b13 w HO; (simp only [Act.put, zA, zB, zC])) | ((with_reducible apply wpList_alloc _ HO rfl); exact rfl; infer_instance; exact rfl; exact rfl; clear HO; intro b13 w HO; (simp only [Act.put, zA, zB, zC]))))
      refine wpList_nil (thenQ_keep (HO.held (by with_reducible (repeat (first | exact List.nil_sublist _ | apply List.Sublist.cons_cons | apply List.Sublist.cons)))) ?_)
      ((with_reducible apply wpSched_loud); exact rfl; ((with_reducible apply wpList_storeAll HO); exact rfl; exact rfl; exact rfl; (repeat (with_reducible (first | exact At.head _ | apply At.tail))); infer_instance; exact rfl; exact rfl; exact rfl; exact rfl; clear HO; intro w HO; (simp only [Act.put])))
      refine wpList_nil (thenQ_keep (HO.held (by with_reducible (repeat (first | exact List.nil_sublist _ | apply List.Sublist.cons_cons | apply List.Sublist.cons)))) ?_)
      repeat ((with_reducible apply wpSched_pure); exact rfl; exact rfl; (intro w'; go_simp; try with_reducible rfl); (simp only [Act.put, zA, zB, zC]))
      refine wpSched_end ?_
      go_wp2_with fail
      go_meet
      exact ⟨b13, rfl, by rw [HK.out]; exact HO⟩
    · (first | ((with_reducible apply wpList_boxAgg _ HO rfl); exact rfl; exact rfl; exact rfl; clear HO; intro b13 w HO; (simp only [Act.put, zA, zB, zC])) | ((with_reducible apply wpList_allocAgg _ HO rfl); exact rfl; infer_instance; exact rfl; clear HO; intro b13 w HO; (simp only [Act.put, zA, zB, zC])) | ((with_reducible apply wpList_boxOne _ HO rfl); exact rfl; (first | (simp [Act.eval]; rfl) | exact rfl); exact rfl; exact rfl; clear HO; intro b13 w HO; (simp only [Act.put, zA, zB, zC])) | ((with_reducible apply wpList_alloc _ HO rfl); exact rfl; infer_instance; exact rfl; exact rfl; clear HO; intro b13 w HO; (simp only [Act.put, zA, zB, zC])))
      refine wpList_nil (thenQ_keep (HO.held (by with_reducible (repeat (first | exact List.nil_sublist _ | apply List.Sublist.cons_cons | apply List.Sublist.cons)))) ?_)
      refine wpS_fin ?_
      ((with_reducible apply wpSched_loud); exact rfl; go_wp2_with ((go_at_call 109; go_must ((with_reducible refine (ITO _ HO.grown).mono ?_); rintro e w ⟨rfl, hb⟩; replace HO := HO.call hb; clear hb))))
      refine thenQ_keep (HO.held (by with_reducible (repeat (first | exact List.nil_sublist _ | apply List.Sublist.cons_cons | apply List.Sublist.cons)))) ?_
      repeat (first | ((with_reducible apply wpSched_loadOne); exact rfl; exact rfl; exact rfl; (repeat (with_reducible (first | exact At.head _ | apply At.tail))); exact rfl; infer_instance; exact rfl; (simp only [Act.put, zA, zB, zC])) | ((with_reducible apply wpSched_loadAll); exact rfl; exact rfl; exact rfl; (repeat (with_reducible (first | exact At.head _ | apply At.tail))); infer_instance; exact rfl; exact rfl; (simp only [Act.put, zA, zB, zC])) | ((with_reducible apply wpSched_pure); exact rfl; exact rfl; (intro w'; go_simp; try with_reducible rfl); (simp only [Act.put, zA, zB, zC])))
      ((with_reducible apply wpSched_loud); exact rfl; ((with_reducible apply wpList_storeAll HO); exact rfl; exact rfl; exact rfl; (repeat (with_reducible (first | exact At.head _ | apply At.tail))); infer_instance; exact rfl; exact rfl; exact rfl; exact rfl; clear HO; intro w HO; (simp only [Act.put])))
      refine wpList_nil (thenQ_keep (HO.held (by with_reducible (repeat (first | exact List.nil_sublist _ | apply List.Sublist.cons_cons | apply List.Sublist.cons)))) ?_)
      repeat ((with_reducible apply wpSched_pure); exact rfl; exact rfl; (intro w'; go_simp; try with_reducible rfl); (simp only [Act.put, zA, zB, zC]))
      refine wpSched_end ?_
      go_wp2_with fail
      go_meet
      exact ⟨b13, rfl, by rw [HK.out]; exact HO⟩
  clear HO HK a1 a1' ITO hix
  obtain ⟨b13, rfl, HO⟩ := hcut
  by_cases hneg : za < 0
  · have NG := fun w => mNeg_any hza w
    by_cases hmn : za = -9223372036854775808
    · rw [if_pos hmn] at HE
      obtain rfl := HE.out
      obtain rfl := HN.out (by decide)
      rw [subI_no (by rw [hmn]; decide)] at NG
      clear HE HN HY HS HGG HP PO hmn
      go_wp2_with (first | go_big_skip | (first | go_big_skip | ((with_reducible apply wpList_loadAll HO); exact rfl; exact rfl; (repeat (with_reducible (first | exact At.head _ | apply At.tail))); infer_instance; exact rfl; exact rfl; (simp only [Act.put, zA, zB, zC])) | ((with_reducible apply wpList_loadOne HO); exact rfl; exact rfl; (repeat (with_reducible (first | exact At.head _ | apply At.tail))); exact rfl; infer_instance; exact rfl; (simp only [Act.put, zA, zB, zC]))) | (go_at_call 110; go_must ((with_reducible refine (NG _).mono ?_); rintro e w ⟨rfl, hb⟩; replace HO := HO.call hb; clear hb)))
      go_ret
      exact ⟨rfl, _, HO.tail.tail⟩
    rw [if_neg hmn] at HE
    have hn1 : subI 0 za = (-za, true) := by rw [subI_yes (inI_iff.2 (by have := inI_iff.1 hza; omega))]; rw [Int.zero_sub]
    rw [hn1] at NG
    have hbig : -9223372036854775808 < za := by have := inI_iff.1 hza; omega
    clear hn1 hmn
    have hsg : za < 0 := hneg
    have hp := HP.out zb zo za zs
    rw [if_pos hsg] at hp
    rw [hp] at HE HY
    clear HP hp
    have PO1 := Lib.hid (PO.out ⟨wid, zo, 1, 4, (-za)⟩ ⟨hzo, rfl, rfl, (show inI (-za) = true from inI_iff.2 (by have := inI_iff.1 hza; omega)), hws⟩)
    have hpn1 := Lib.hid (hpn.out ⟨wid, zo, 1, 4, (-za)⟩)
    simp only [pstV, pstC] at PO1
    clear PO hpn
    generalize postE D.P ⟨wid, zo, 1, 4, (-za)⟩ = pe at *
    generalize postL D.P ⟨wid, zo, 1, 4, (-za)⟩ = pl at *
    obtain rfl := HE.out
    go_upto_region 16 with (first | go_big_skip | (first | go_big_skip | ((with_reducible apply wpList_loadAll HO); exact rfl; exact rfl; (repeat (with_reducible (first | exact At.head _ | apply At.tail))); infer_instance; exact rfl; exact rfl; (simp only [Act.put, zA, zB, zC])) | ((with_reducible apply wpList_loadOne HO); exact rfl; exact rfl; (repeat (with_reducible (first | exact At.head _ | apply At.tail))); exact rfl; infer_instance; exact rfl; (simp only [Act.put, zA, zB, zC]))) | ((with_reducible apply wpList_storeOne HO); exact rfl; exact rfl; (first | (simp [Act.eval]; rfl) | exact rfl); exact rfl; (repeat (with_reducible (first | exact At.head _ | apply At.tail))); infer_instance; exact (by simp); (simp only [List.set_cons_succ, List.set_cons_zero]; rfl); exact rfl; clear HO; intro w HO; (simp only [Act.put])) | (go_at_call 110; go_must ((with_reducible refine (NG _).mono ?_); rintro e w ⟨rfl, hb⟩; replace HO := HO.call hb; clear hb)))
    refine region_sched2 ([box b13 (.cells #[.string wid, .int .i64 zo, .int .i64 1, .int .i64 4, .int .i64 (-za)] 187), box t (.cells #[.slice (some q) D.I.length c, .pointer (some ⟨k, 0, none⟩)] 96)]) [(0, true), (1, true), (2, true), (3, true), (4, true), (5, false), (6, true)] HO (by with_reducible (repeat (first | exact List.nil_sublist _ | apply List.Sublist.cons_cons | apply List.Sublist.cons))) (by kernel_rfl) (by kernel_rfl) ?_
    clear HO
    intro w HO
    repeat (first | ((with_reducible apply wpSched_loadOne); exact rfl; exact rfl; exact rfl; (repeat (with_reducible (first | exact At.head _ | apply At.tail))); exact rfl; infer_instance; exact rfl; (simp only [Act.put, zA, zB, zC])) | ((with_reducible apply wpSched_loadAll); exact rfl; exact rfl; exact rfl; (repeat (with_reducible (first | exact At.head _ | apply At.tail))); infer_instance; exact rfl; exact rfl; (simp only [Act.put, zA, zB, zC])) | ((with_reducible apply wpSched_pure); exact rfl; exact rfl; (intro w'; go_simp; try with_reducible rfl); (simp only [Act.put, zA, zB, zC])))
    ((with_reducible apply wpSched_loud); exact rfl; go_wp2_with ((go_at_call 111; go_must ((have h9 := PO1.out _ _ _ HO (by intro v9; (repeat (with_reducible (first | exact At.head _ | apply At.tail))))); (with_reducible refine h9.mono ?_); clear h9 HO; rintro e w ⟨rfl, u9, HO⟩))))
    refine thenQ_free (by kernel_rfl) ?_
    repeat ((with_reducible apply wpSched_pure); exact rfl; exact rfl; (intro w'; go_simp; try with_reducible rfl); (simp only [Act.put, zA, zB, zC]))
    refine wpSched_end ?_
    by_cases hpe : ex = 0
    · subst hpe
      obtain rfl := HY.out rfl
      clear HN HY hpn1
      go_wp2_with (first | go_big_skip | (first | go_big_skip | ((with_reducible apply wpList_loadAll HO); exact rfl; exact rfl; (repeat (with_reducible (first | exact At.head _ | apply At.tail))); infer_instance; exact rfl; exact rfl; (simp only [Act.put, zA, zB, zC])) | ((with_reducible apply wpList_loadOne HO); exact rfl; exact rfl; (repeat (with_reducible (first | exact At.head _ | apply At.tail))); exact rfl; infer_instance; exact rfl; (simp only [Act.put, zA, zB, zC]))) | ((with_reducible apply wpList_storeRow1 (q := q) (i := j) (k := 4) (f := 3) (n := D.I.length) (c := c) HO); exact rfl; exact rfl; (first | (simp [Act.eval]; rfl) | exact rfl); exact rfl; exact HGG.out; decide; (repeat (with_reducible (first | exact At.head _ | apply At.tail))); exact itemC_len _; infer_instance; exact rfl; clear HO; intro w HO; (simp only [Act.put])))
      go_ret
      refine ⟨rfl, u9, ?_⟩
      show Own W w (box t (.cells #[.slice (some q) D.I.length c, .pointer (some ⟨k, 0, none⟩)] 96) :: row 82 4 (.slice (some q) D.I.length c) ((D.I.set j { b := zb, o := zo, a := za, s := 2 }).map itemC) :: bkE k u9 pm bm pl :: M)
      rw [HS.out]
      exact HO.tail.tail
    · have hd : (ex != 0) = true := by rw [bne_iff_ne]; exact hpe
      obtain rfl := HN.out hpe
      obtain rfl := hpn1.out hpe
      clear HN HY hpn1 hpe
      go_wp2_with (first | go_big_skip | (first | go_big_skip | ((with_reducible apply wpList_loadAll HO); exact rfl; exact rfl; (repeat (with_reducible (first | exact At.head _ | apply At.tail))); infer_instance; exact rfl; exact rfl; (simp only [Act.put, zA, zB, zC])) | ((with_reducible apply wpList_loadOne HO); exact rfl; exact rfl; (repeat (with_reducible (first | exact At.head _ | apply At.tail))); exact rfl; infer_instance; exact rfl; (simp only [Act.put, zA, zB, zC]))))
      go_ret
      exact ⟨rfl, u9, HO.tail.tail⟩
  · have NG : True := trivial
    rw [if_neg (by omega)] at HE
    have hsg : ¬ za < 0 := hneg
    have hp := HP.out zb zo za zs
    rw [if_neg hsg] at hp
    rw [hp] at HE HY
    clear HP hp
    have PO1 := Lib.hid (PO.out ⟨wid, zo, 4, 1, za⟩ ⟨hzo, rfl, rfl, hza, hws⟩)
    have hpn1 := Lib.hid (hpn.out ⟨wid, zo, 4, 1, za⟩)
    simp only [pstV, pstC] at PO1
    clear PO hpn
    generalize postE D.P ⟨wid, zo, 4, 1, za⟩ = pe at *
    generalize postL D.P ⟨wid, zo, 4, 1, za⟩ = pl at *
    obtain rfl := HE.out
    go_upto_region 16 with (first | go_big_skip | (first | go_big_skip | ((with_reducible apply wpList_loadAll HO); exact rfl; exact rfl; (repeat (with_reducible (first | exact At.head _ | apply At.tail))); infer_instance; exact rfl; exact rfl; (simp only [Act.put, zA, zB, zC])) | ((with_reducible apply wpList_loadOne HO); exact rfl; exact rfl; (repeat (with_reducible (first | exact At.head _ | apply At.tail))); exact rfl; infer_instance; exact rfl; (simp only [Act.put, zA, zB, zC]))) | ((with_reducible apply wpList_storeOne HO); exact rfl; exact rfl; (first | (simp [Act.eval]; rfl) | exact rfl); exact rfl; (repeat (with_reducible (first | exact At.head _ | apply At.tail))); infer_instance; exact (by simp); (simp only [List.set_cons_succ, List.set_cons_zero]; rfl); exact rfl; clear HO; intro w HO; (simp only [Act.put])))
    refine region_sched2 ([box b13 (.cells #[.string wid, .int .i64 zo, .int .i64 4, .int .i64 1, .int .i64 za] 187), box t (.cells #[.slice (some q) D.I.length c, .pointer (some ⟨k, 0, none⟩)] 96)]) [(0, true), (1, true), (2, true), (3, true), (4, true), (5, false), (6, true)] HO (by with_reducible (repeat (first | exact List.nil_sublist _ | apply List.Sublist.cons_cons | apply List.Sublist.cons))) (by kernel_rfl) (by kernel_rfl) ?_
    clear HO
    intro w HO
    repeat (first | ((with_reducible apply wpSched_loadOne); exact rfl; exact rfl; exact rfl; (repeat (with_reducible (first | exact At.head _ | apply At.tail))); exact rfl; infer_instance; exact rfl; (simp only [Act.put, zA, zB, zC])) | ((with_reducible apply wpSched_loadAll); exact rfl; exact rfl; exact rfl; (repeat (with_reducible (first | exact At.head _ | apply At.tail))); infer_instance; exact rfl; exact rfl; (simp only [Act.put, zA, zB, zC])) | ((with_reducible apply wpSched_pure); exact rfl; exact rfl; (intro w'; go_simp; try with_reducible rfl); (simp only [Act.put, zA, zB, zC])))
    ((with_reducible apply wpSched_loud); exact rfl; go_wp2_with ((go_at_call 111; go_must ((have h9 := PO1.out _ _ _ HO (by intro v9; (repeat (with_reducible (first | exact At.head _ | apply At.tail))))); (with_reducible refine h9.mono ?_); clear h9 HO; rintro e w ⟨rfl, u9, HO⟩))))
    refine thenQ_free (by kernel_rfl) ?_
    repeat ((with_reducible apply wpSched_pure); exact rfl; exact rfl; (intro w'; go_simp; try with_reducible rfl); (simp only [Act.put, zA, zB, zC]))
    refine wpSched_end ?_
    by_cases hpe : ex = 0
    · subst hpe
      obtain rfl := HY.out rfl
      clear HN HY hpn1
      go_wp2_with (first | go_big_skip | (first | go_big_skip | ((with_reducible apply wpList_loadAll HO); exact rfl; exact rfl; (repeat (with_reducible (first | exact At.head _ | apply At.tail))); infer_instance; exact rfl; exact rfl; (simp only [Act.put, zA, zB, zC])) | ((with_reducible apply wpList_loadOne HO); exact rfl; exact rfl; (repeat (with_reducible (first | exact At.head _ | apply At.tail))); exact rfl; infer_instance; exact rfl; (simp only [Act.put, zA, zB, zC]))) | ((with_reducible apply wpList_storeRow1 (q := q) (i := j) (k := 4) (f := 3) (n := D.I.length) (c := c) HO); exact rfl; exact rfl; (first | (simp [Act.eval]; rfl) | exact rfl); exact rfl; exact HGG.out; decide; (repeat (with_reducible (first | exact At.head _ | apply At.tail))); exact itemC_len _; infer_instance; exact rfl; clear HO; intro w HO; (simp only [Act.put])))
      go_ret
      refine ⟨rfl, u9, ?_⟩
      show Own W w (box t (.cells #[.slice (some q) D.I.length c, .pointer (some ⟨k, 0, none⟩)] 96) :: row 82 4 (.slice (some q) D.I.length c) ((D.I.set j { b := zb, o := zo, a := za, s := 2 }).map itemC) :: bkE k u9 pm bm pl :: M)
      rw [HS.out]
      exact HO.tail.tail
    · have hd : (ex != 0) = true := by rw [bne_iff_ne]; exact hpe
      obtain rfl := HN.out hpe
      obtain rfl := hpn1.out hpe
      clear HN HY hpn1 hpe
      go_wp2_with (first | go_big_skip | (first | go_big_skip | ((with_reducible apply wpList_loadAll HO); exact rfl; exact rfl; (repeat (with_reducible (first | exact At.head _ | apply At.tail))); infer_instance; exact rfl; exact rfl; (simp only [Act.put, zA, zB, zC])) | ((with_reducible apply wpList_loadOne HO); exact rfl; exact rfl; (repeat (with_reducible (first | exact At.head _ | apply At.tail))); exact rfl; infer_instance; exact rfl; (simp only [Act.put, zA, zB, zC]))))
      go_ret
      exact ⟨rfl, u9, HO.tail.tail⟩
end Go.Proofs.YtibabfedpdoofaaGreatDoor
namespace Go.Proofs.YtibabfedpdoofaaGreatDoor
open Go.RowKit Go.Own Go.Maps

def chE : List EntI := [⟨⟨1, 1, [97], [120], 1, 500, 0, 0, 0, 0, 0, []⟩, .slice none 0 0⟩, ⟨⟨3, 0, [], [], 0, 0, 1, 0, 1, 0, 0, []⟩, .slice none 0 0⟩, ⟨⟨3, 0, [], [], 0, 0, 1, 1, 1, 0, 0, []⟩, .slice none 0 0⟩, ⟨⟨3, 0, [], [], 0, 0, 1, 2, 1, 0, 0, []⟩, .slice none 0 0⟩]
def chS : CoS := ⟨[(⟨1, [97], [120], 1, 500⟩, ⟨2, 2, 2, 0, 0, 0, false⟩)], [⟨putK 1 1, 1, 1, 0, 500⟩]⟩
theorem chC : coreOf (chE.map (·.x)) = (chS, zeroI) := by kernel_rfl
def sI1 : List ItemS := [⟨[97], 1, 300, 1⟩]
def sI2 : List ItemS := [⟨[97], 1, 300, 2⟩]
def sP2 : List Pst := [wPst 1 ⟨[97], 1, 300, 1⟩]
theorem s1 : propE chS [] ⟨[97], 1, 300, 0⟩ = 0 := by kernel_rfl
theorem s1n : propN chS [] ⟨[97], 1, 300, 0⟩ = 1 := by kernel_rfl
theorem s1i : propI chS [] ⟨[97], 1, 300, 0⟩ = sI1 := by kernel_rfl
theorem s2 : propE chS sI1 ⟨[98], 1, 300, 0⟩ = 90 := by kernel_rfl
theorem s2n : propN chS sI1 ⟨[98], 1, 300, 0⟩ = 0 := by kernel_rfl
theorem s2i : propI chS sI1 ⟨[98], 1, 300, 0⟩ = sI1 := by kernel_rfl
theorem s3 : apprE chS ⟨sI1, []⟩ [97] 1 = 91 := by kernel_rfl
theorem s3d : apprD chS ⟨sI1, []⟩ [97] 1 = ⟨sI1, []⟩ := by kernel_rfl
theorem s4 : apprE chS ⟨sI1, []⟩ [98] 1 = 0 := by kernel_rfl
theorem s4d : apprD chS ⟨sI1, []⟩ [98] 1 = ⟨sI2, sP2⟩ := by kernel_rfl
theorem s5 : apprE chS ⟨sI2, sP2⟩ [98] 1 = 92 := by kernel_rfl
theorem s5d : apprD chS ⟨sI2, sP2⟩ [98] 1 = ⟨sI2, sP2⟩ := by kernel_rfl
theorem s6 : openD chS sI2 1 = (200, true) := by kernel_rfl
theorem s7 : bal sP2 4 1 = 300 := by kernel_rfl
theorem chBk : Bk chS.P := .snoc [] _ .nil (by kernel_rfl) rfl (by kernel_rfl)
theorem sBk : Bk sP2 := .snoc [] _ .nil (by kernel_rfl) rfl (by kernel_rfl)

theorem entC_len32 (l : List EntI) : ∀ x ∈ l.map entC, x.length = 12 := fun x hx => by
  obtain ⟨y, _, rfl⟩ := List.mem_map.1 hx
  rfl

set_option maxHeartbeats 8000000 in
set_option maxRecDepth 100000 in
theorem charged32_any (W : World) (hL : LaidE W) : Calls Tryz.prog 100 #[] W fun e w' => ∃ (a : CoA) (i : InA) (N : List Ent), e = .returned (.pointer (some ⟨a.c, 0, none⟩)) ∧ Own W w' (coPs a chS i zeroI ++ (inPs i zeroI ++ N)) := by
  have HO := Own.start W
  have hnil : ∀ w' : World, IsRows w' (.slice none 0 0) [] := fun w' => .none _ _ (fun _ => rfl)
  have HEF : ∀ (v : Value), EntsIn W [row 34 12 v (chE.map entC)] v chE := fun v => by
    refine ⟨fun w' _ hF => isL_of_owns (entC_len32 _) (hF _ List.mem_cons_self), fun e he => ?_⟩
    simp only [chE, List.mem_cons, List.not_mem_nil, or_false] at he
    rcases he with rfl | rfl | rfl | rfl
    all_goals exact ⟨fun w' _ _ => hnil w', by unfold maxLen; decide, by unfold maxLen; decide, rfl⟩
  have CH := Lib.hid chC
  go_enter Tryz.func100, Tryz.ntmps100
  go_wp2_with (first | go_big_skip | (first | go_big_skip | ((with_reducible apply wpList_loadAll HO); exact rfl; exact rfl; (repeat (with_reducible (first | exact At.head _ | apply At.tail))); infer_instance; exact rfl; exact rfl; (simp only [Act.put, zA, zB, zC])) | ((with_reducible apply wpList_loadOne HO); exact rfl; exact rfl; (repeat (with_reducible (first | exact At.head _ | apply At.tail))); exact rfl; infer_instance; exact rfl; (simp only [Act.put, zA, zB, zC]))) | ((with_reducible apply wpList_litN ([[.int .i64 1, .int .i64 1, .string ⟨#[97]⟩, .string ⟨#[120]⟩, .int .i64 1, .int .i64 500, .int .i64 0, .int .i64 0, .int .i64 0, .int .i64 0, .int .i64 0, .slice none 0 0], [.int .i64 3, .int .i64 0, .string ⟨#[]⟩, .string ⟨#[]⟩, .int .i64 0, .int .i64 0, .int .i64 1, .int .i64 0, .int .i64 1, .int .i64 0, .int .i64 0, .slice none 0 0], [.int .i64 3, .int .i64 0, .string ⟨#[]⟩, .string ⟨#[]⟩, .int .i64 0, .int .i64 0, .int .i64 1, .int .i64 1, .int .i64 1, .int .i64 0, .int .i64 0, .slice none 0 0], [.int .i64 3, .int .i64 0, .string ⟨#[]⟩, .string ⟨#[]⟩, .int .i64 0, .int .i64 0, .int .i64 1, .int .i64 2, .int .i64 1, .int .i64 0, .int .i64 0, .slice none 0 0]]) HO); exact rfl; infer_instance; infer_instance; exact rfl; exact rfl; exact rfl; exact rfl; exact rfl; exact rfl; clear HO; intro bl w HO; (simp only [Act.put, zA, zB, zC])) | (go_at_call 14; go_must ((have HO2 := HO.litRow (A := chE.map entC) (k := 12) (entC_len32 _) rfl rfl (show (4 : Nat) ≤ maxLen by unfold maxLen; omega)); (have h9 := cored_any HO2 (G := [row 34 12 (.slice (some ⟨bl, 0, none⟩) 4 4) (chE.map entC)]) (fun e he => by rw [List.mem_singleton.1 he]; exact List.mem_cons_self) (HEF _) hL (by decide)); rw [CH.out] at h9; (with_reducible refine h9.mono ?_); clear h9 HO HO2; rintro e w ⟨a, i, x, N, rfl, HO, -⟩)))
  go_ret
  exact ⟨a, i, _, rfl, HO⟩
theorem dk_coAt {W w : World} {X M : List Ent} {x : DkA} {D : DkS} {a : CoA} {S : CoS} {i : InA} {A : InS} (hm : ∀ e ∈ coPs a S i A, e ∈ M) (h : Own W w (X ++ (dkPs x D ++ M))) : CoAt w a S i A :=
  Own.coAt h (List.mem_append_right _ (List.mem_append_right _ (hm _ (.head _)))) (List.mem_append_right _ (List.mem_append_right _ (hm _ (.tail _ (.head _))))) (List.mem_append_right _ (List.mem_append_right _ (hm _ (.tail _ (.tail _ (.head _))))))

set_option maxHeartbeats 16000000 in
set_option maxRecDepth 100000 in
theorem signed_any (W : World) (hL : LaidE W) : Calls Tryz.prog 39 #[] W fun e w' => e = .returned (.bool true) ∧ Below W.heap.size W w' := by
  have HO := Own.start W
  go_enter Tryz.func39, Tryz.ntmps39
  go_upto_region 2 with (first | go_big_skip | (go_at_call 100; go_must ((with_reducible refine (charged32_any _ (hL.below HO.grown)).mono ?_); rintro e w ⟨a, i, N, rfl, HO1⟩; replace HO := HO.lift HO1; clear HO1)) | (go_at_call 40; go_must ((with_reducible refine (dkNew_any _).mono ?_); rintro e w ⟨x, rfl, HO1⟩; replace HO := HO.lift HO1; clear HO1)))
  obtain ⟨M, hM⟩ : ∃ M, M = (coPs a chS i zeroI ++ (inPs i zeroI ++ N)) ++ [] := ⟨_, rfl⟩
  have hm : ∀ e ∈ coPs a chS i zeroI, e ∈ M := fun e he => by rw [hM]; exact List.mem_append_left _ (List.mem_append_left _ he)
  rw [← hM] at HO
  clear hM
  have i0 : ItOk [] := fun x hx => by cases hx
  have i1 : ItOk sI1 := fun x hx => by rw [List.mem_singleton.1 hx]; exact ⟨rfl, rfl, rfl, by unfold maxLen; decide⟩
  have i2 : ItOk sI2 := fun x hx => by rw [List.mem_singleton.1 hx]; exact ⟨rfl, rfl, rfl, by unfold maxLen; decide⟩
  have P1 := Lib.hid (fun (w : World) (x : DkA) (h : Own W w (dkPs x ⟨[], []⟩ ++ M)) => dkProp_any (⟨[97], 1, 300, 0⟩ : ItemS) h hm i0 chBk rfl (by unfold maxLen; decide) (by decide))
  have P2 := Lib.hid (fun (w : World) (x : DkA) (h : Own W w (dkPs x ⟨sI1, []⟩ ++ M)) => dkProp_any (⟨[98], 1, 300, 0⟩ : ItemS) h hm i1 chBk rfl (by unfold maxLen; decide) (by show (1 : Nat) ≤ 1000; decide))
  have A1 := Lib.hid (fun (w : World) (x : DkA) (h : Own W w (dkPs x ⟨sI1, []⟩ ++ M)) => dkAppr_any (b := [97]) (n := 1) h hm i1 .nil chBk (by unfold maxLen; decide) rfl (by decide) (by show (1 : Nat) ≤ 1000; decide) hL)
  have A2 := Lib.hid (fun (w : World) (x : DkA) (h : Own W w (dkPs x ⟨sI1, []⟩ ++ M)) => dkAppr_any (b := [98]) (n := 1) h hm i1 .nil chBk (by unfold maxLen; decide) rfl (by decide) (by show (1 : Nat) ≤ 1000; decide) hL)
  have A3 := Lib.hid (fun (w : World) (x : DkA) (h : Own W w (dkPs x ⟨sI2, sP2⟩ ++ M)) => dkAppr_any (b := [98]) (n := 1) h hm i2 sBk chBk (by unfold maxLen; decide) rfl (by show (1 : Nat) ≤ 99000; decide) (by show (1 : Nat) ≤ 1000; decide) hL)
  have OP := Lib.hid (fun (w : World) (x : DkA) (h : Own W w (dkPs x ⟨sI2, sP2⟩ ++ M)) => dkOpen_any (o := 1) (Own.dkAt h (dk_in [] x ⟨sI2, sP2⟩ M)) (dk_coAt (X := []) hm h) i2 chBk rfl)
  have BK := Lib.hid (fun (w : World) (x : DkA) (h : Own W w (dkPs x ⟨sI2, sP2⟩ ++ M)) => dkBooks_any (Own.dkAt h (dk_in [] x ⟨sI2, sP2⟩ M)) (by show (1 : Nat) ≤ 100000; decide))
  have BL := Lib.hid (fun (w : World) (b : Nat) (v : Value) (pm bm : Nat) (L : List Ent) (h : Own W w (bkE b v pm bm sP2 :: L)) => bkBal_any (Own.bkAt h (.head _)) (n := 4) (o := 1) rfl rfl)
  simp only [s1, s1n, s1i, itemV] at P1
  simp only [s2, s2n, s2i, itemV] at P2
  simp only [s3, s3d] at A1
  simp only [s4, s4d] at A2
  simp only [s5, s5d] at A3
  simp only [s6] at OP
  simp only [s7] at BL
  go_upto_region 3 with (first | go_big_skip | (go_at_call 42; go_must ((have h9 := P1.out _ _ HO); (with_reducible refine h9.mono ?_); clear h9 HO; rintro e w ⟨rfl, v1, HO⟩)))
  go_upto_region 4 with (first | go_big_skip | (go_at_call 42; go_must ((have h9 := P2.out _ _ HO); (with_reducible refine h9.mono ?_); clear h9 HO; rintro e w ⟨rfl, v2, HO⟩)))
  go_upto_region 5 with (first | go_big_skip | (go_at_call 47; first | ((have h9 := A1.out _ _ HO); (with_reducible refine h9.mono ?_); clear h9 HO; rintro e w ⟨rfl, u1, HO⟩) | ((have h9 := A2.out _ _ HO); (with_reducible refine h9.mono ?_); clear h9 HO; rintro e w ⟨rfl, u2, HO⟩) | ((have h9 := A3.out _ _ HO); (with_reducible refine h9.mono ?_); clear h9 HO; rintro e w ⟨rfl, u3, HO⟩)))
  go_upto_region 6 with (first | go_big_skip | (go_at_call 41; go_must ((with_reducible refine (OP.out _ _ HO).mono ?_); rintro e w ⟨rfl, hb⟩; replace HO := HO.call hb; clear hb)))
  go_wp2_with (first | go_big_skip | (go_at_call 48; go_must ((have h9 := BK.out _ _ HO); (with_reducible refine h9.mono ?_); clear h9; rintro e w ⟨b9, v9, p9, m9, rfl, HO1⟩; replace HO := HO.lift HO1; clear HO1; simp only [List.cons_append, List.nil_append] at HO)) | (go_at_call 52; go_must ((with_reducible refine (BL.out _ _ _ _ _ _ HO).mono ?_); rintro e w ⟨rfl, hb⟩; replace HO := HO.call hb; clear hb)))
  go_ret
  exact ⟨rfl, HO.grown⟩
end Go.Proofs.YtibabfedpdoofaaGreatDoor
namespace Go.Proofs.YtibabfedpdoofaaGreatDoor
open Go.RowKit Go.Own Go.Maps

structure ActI where
  k : Nat
  b : List UInt8
  n : Int
  it : ItemS
  e : EntI
def actC (x : ActI) : List Value := [.int .u8 (x.k : Int), .string ⟨x.b.toArray⟩, .int .i64 x.n, .string ⟨x.it.b.toArray⟩, .int .i64 x.it.o, .int .i64 x.it.a, .int .i64 x.it.s, .int .i64 x.e.x.k, .int .i64 x.e.x.id, .string ⟨x.e.x.ref.toArray⟩, .string ⟨x.e.x.sku.toArray⟩, .int .i64 x.e.x.qty, .int .i64 x.e.x.amt, .int .i64 x.e.x.o, .int .i64 x.e.x.d, .int .i64 x.e.x.c, .int .i64 x.e.x.p, .int .i64 x.e.x.q, x.e.v]
structure ActOk (W : World) (x : ActI) : Prop where
  k : x.k ≤ 255
  b : x.b.length ≤ maxLen
  n : inI x.n = true
  ib : x.it.b.length ≤ maxLen
  io : inI x.it.o = true
  ia : inI x.it.a = true
  is : inI x.it.s = true
  r : IsRows W x.e.v x.e.x.rs
  ref : x.e.x.ref.length ≤ maxLen
  sku : x.e.x.sku.length ≤ maxLen
  o : inI x.e.x.o = true
structure IsActs (W : World) (v : Value) (xs : List ActI) : Prop where
  l : IsL W 19 v (xs.map actC)
  r : ∀ x ∈ xs, ActOk W x
theorem ActOk.below {W w : World} {x : ActI} (h : ActOk W x) (hb : Below W.heap.size W w) : ActOk w x := { h with r := h.r.below hb h.r.lt }
theorem IsActs.below {W w : World} {v : Value} {l : List ActI} (h : IsActs W v l) (hb : Below W.heap.size W w) : IsActs w v l := ⟨h.l.below hb h.l.lt, fun x hx => (h.r x hx).below hb⟩
def greatX (x : ActI) : Bool := decide (100 < x.b.length) || decide (100 < x.it.b.length) || greatL [x.e] 1
def greatA (l : List ActI) (most : Int) : Bool := l.any greatX || decide (most < (l.length : Int))
theorem addr_add9 (a : Addr) (m k : Nat) : (a.add m).add k = a.add (m + k) := by
  unfold Addr.add
  by_cases hm : m = 0
  · subst hm; simp
  · by_cases hk : k = 0
    · subst hk; simp [hm]
    · simp [hm, hk, Nat.add_assoc]
theorem act_ent {w : World} {a : Addr} {x : ActI} (h : ∀ i u, (actC x)[i]? = some u → w.cell? (a.add i) = some u) : ∀ i u, (entC x.e)[i]? = some u → w.cell? ((a.add 7).add i) = some u := fun i u hu => by
  rw [addr_add9]
  refine h (7 + i) u ?_
  rw [show (actC x) = [.int .u8 (x.k : Int), .string ⟨x.b.toArray⟩, .int .i64 x.n, .string ⟨x.it.b.toArray⟩, .int .i64 x.it.o, .int .i64 x.it.a, .int .i64 x.it.s] ++ entC x.e from rfl, List.getElem?_append_right (by simp)]
  simpa using hu
theorem one_ents {W w : World} {v : Value} {e : EntI} {L : List Ent} (hO : Own W w (row 34 12 v [entC e] :: L)) (hr : IsRows W e.v e.x.rs) (h1 : e.x.ref.length ≤ maxLen) (h2 : e.x.sku.length ≤ maxLen) (h3 : inI e.x.o = true) : IsEnts w v [e] :=
  ⟨isL_of_owns (fun x hx => by rw [List.mem_singleton.1 hx]; rfl) (hO.has _ List.mem_cons_self), fun y hy => by rw [List.mem_singleton.1 hy]; exact ⟨hr.below hO.grown hr.lt, h1, h2, h3⟩⟩

set_option maxHeartbeats 16000000 in
set_option maxRecDepth 100000 in
theorem great32_any {W : World} {v : Value} {l : List ActI} (most : Int) (h : IsActs W v l) : Calls Tryz.prog 45 #[v, .int .i64 most] W fun e w' => e = .returned (.bool (greatA l most)) ∧ Below W.heap.size W w' := by
  have HO := Own.start W
  have HR := Lib.hid h.r
  have HH := Lib.hid h.l
  obtain ⟨sp, sc, rfl, hmx⟩ := h.l.slice
  rw [List.length_map] at HH hmx ⊢
  have hmx' : (l.length : Int) ≤ 9223372036854775807 := by unfold maxLen at hmx; omega
  clear h
  generalize hg : greatA l most = g0
  replace hg := Lib.hid hg
  go_enter Tryz.func45, Tryz.ntmps45
  go_wp2_with fail
  go_loopw [5] (fun iv wr => ∃ j : Nat, j ≤ l.length ∧ iv = .int .i64 (j : Int) ∧ (l.take j).any greatX = false ∧ Own W wr []) (fun iv _ => l.length - (intOf iv).toNat)
  case atStart => exact ⟨0, by omega, rfl, rfl, HO⟩
  case round =>
    clear HO
    obtain ⟨j, hj, rfl, hnf, HO⟩ := hrel
    by_cases hjl : j < l.length
    rotate_left
    · obtain rfl : j = l.length := by omega
      rw [List.take_length] at hnf
      have hjI : ¬ ((l.length : Int) < (l.length : Int)) := by omega
      obtain rfl : g0 = decide (most < (l.length : Int)) := by rw [← hg.out]; unfold greatA; rw [hnf, Bool.false_or]
      clear hnf
      go_wp2_with fail
      go_ret
      exact ⟨rfl, HO.grown⟩
    have hjI : (j : Int) < (l.length : Int) := by omega
    obtain ⟨q, rfl, hst⟩ := oldAt HH.out rfl hjl
    have hok := HR.out _ (List.getElem_mem hjl)
    have HX := Lib.hid (show greatX l[j] = false → (l.take (j + 1)).any greatX = false from fun hx => by
      rw [List.take_succ_eq_append_getElem hjl, List.any_append, hnf]
      simpa using hx)
    have HY := Lib.hid (show greatX l[j] = true → g0 = true from fun hx => by
      rw [← hg.out]
      unfold greatA
      rw [Bool.or_eq_true, List.any_eq_true]
      exact .inl ⟨l[j], List.getElem_mem hjl, hx⟩)
    clear hnf
    generalize l[j] = y at *
    obtain ⟨yk, yb, yn, ⟨ib, io, ia, is⟩, ⟨ex, ev⟩⟩ := y
    have hen := Lib.hid (fun w' (hb : Below W.heap.size W w') => act_ent (x := ⟨yk, yb, yn, ⟨ib, io, ia, is⟩, ⟨ex, ev⟩⟩) (hst w' hb))
    have h1 := Lib.hid (fun w' (hb : Below W.heap.size W w') => hst w' hb 1 (.string ⟨yb.toArray⟩) rfl)
    have h3 := Lib.hid (fun w' (hb : Below W.heap.size W w') => hst w' hb 3 (.string ⟨ib.toArray⟩) rfl)
    obtain ⟨k1, k2, k3, k4, k5, k6, k7, k8, k9, k10, k11⟩ := hok
    simp only at k1 k2 k3 k4 k5 k6 k7 k8 k9 k10 k11
    unfold entC at hen
    simp only at hen
    have h3' := Lib.hid (fun w' (hb : Below W.heap.size W w') => show w'.cell? (((q.add (j * 19)).add 3).add 0) = some (.string ⟨ib.toArray⟩) by rw [add0]; exact h3.out w' hb)
    unfold maxLen at k2 k4
    clear hst k1 k3 k5 k6 k7
    unfold greatX at HX HY
    simp only at HX HY
    by_cases c1 : 100 < yb.length
    · obtain rfl := HY.out (by rw [decide_eq_true c1]; rfl)
      have d1 : decide ((100 : Int) < (yb.length : Int)) = true := decide_eq_true (by omega)
      clear HX HY c1
      go_wp2_with (first | go_big_skip | ((with_reducible apply wpList_loadAt1 HO); exact rfl; exact rfl; exact (fun w' h => h1.out w' h.grown); infer_instance; exact rfl; (simp only [Act.put, zA, zB, zC])))
      go_ret
      exact ⟨rfl, HO.grown⟩
    have d1 : decide ((100 : Int) < (yb.length : Int)) = false := decide_eq_false (by omega)
    rw [decide_eq_false c1, Bool.false_or] at HX HY
    by_cases c2 : 100 < ib.length
    · obtain rfl := HY.out (by rw [decide_eq_true c2]; rfl)
      have d2 : decide ((100 : Int) < (ib.length : Int)) = true := decide_eq_true (by omega)
      clear HX HY c1 c2
      go_wp2_with (first | go_big_skip | ((with_reducible apply wpList_loadAt1 HO); exact rfl; exact rfl; exact (fun w' h => h1.out w' h.grown); infer_instance; exact rfl; (simp only [Act.put, zA, zB, zC])) | ((with_reducible apply wpList_loadAt1 HO); exact rfl; exact rfl; exact (fun w' h => h3.out w' h.grown); infer_instance; exact rfl; (simp only [Act.put, zA, zB, zC])) | ((with_reducible apply wpList_loadAt1 HO); exact rfl; exact rfl; exact (fun w' h => h3'.out w' h.grown); infer_instance; exact rfl; (simp only [Act.put, zA, zB, zC])))
      go_ret
      exact ⟨rfl, HO.grown⟩
    have d2 : decide ((100 : Int) < (ib.length : Int)) = false := decide_eq_false (by omega)
    rw [decide_eq_false c2, Bool.false_or] at HX HY
    have GR := fun (w : World) (v : Value) (h : IsEnts w v [⟨ex, ev⟩]) => great24_any 1 h
    clear c1 c2
    cases hgr : greatL [⟨ex, ev⟩] 1
    · have HZ := Lib.hid (HX.out hgr)
      rw [hgr] at GR
      clear HX HY hgr
      go_wp2_with (first | go_big_skip | ((with_reducible apply wpList_loadAt1 HO); exact rfl; exact rfl; exact (fun w' h => h1.out w' h.grown); infer_instance; exact rfl; (simp only [Act.put, zA, zB, zC])) | ((with_reducible apply wpList_loadAt1 HO); exact rfl; exact rfl; exact (fun w' h => h3.out w' h.grown); infer_instance; exact rfl; (simp only [Act.put, zA, zB, zC])) | ((with_reducible apply wpList_loadAt1 HO); exact rfl; exact rfl; exact (fun w' h => h3'.out w' h.grown); infer_instance; exact rfl; (simp only [Act.put, zA, zB, zC])) | ((with_reducible apply wpList_loadAt HO); exact rfl; exact rfl; exact (fun w' h => hen.out w' h.grown); infer_instance; exact rfl; exact rfl; (simp only [Act.put, zA, zB, zC])) | (first | ((with_reducible apply wpList_lit1 HO); exact rfl; infer_instance; infer_instance; exact rfl; exact rfl; exact (by decide); exact rfl; clear HO; intro bl w HO; (simp only [Act.put, zA, zB, zC])) | ((with_reducible apply wpList_lit1c HO); exact rfl; infer_instance; infer_instance; (first | (simp [Act.eval]; rfl) | exact rfl); exact rfl; exact rfl; clear HO; intro bl w HO; (simp only [Act.put, zA, zB, zC]))) | (go_at_call 11; go_must ((have HO2 : Own W w (row 34 12 (.slice (some ⟨bl, 0, none⟩) 1 1) [entC ⟨ex, ev⟩] :: _) := HO.litRow (A := [entC ⟨ex, ev⟩]) (k := 12) (fun x hx => by rw [List.mem_singleton.1 hx]; rfl) rfl rfl (show (1 : Nat) ≤ maxLen by unfold maxLen; omega)); (with_reducible refine (GR _ _ (one_ents HO2 k8 k9 k10 k11)).mono ?_); clear HO2; rintro e w ⟨rfl, hb⟩; replace HO := HO.call hb; clear hb)))
      replace HO := HO.tail
      go_roundw
      case rel => exact ⟨j + 1, by omega, by go_num, HZ.out, HO⟩
      case measure => simp [intOf] <;> omega
    · obtain rfl := HY.out hgr
      rw [hgr] at GR
      clear HX HY hgr
      go_wp2_with (first | go_big_skip | ((with_reducible apply wpList_loadAt1 HO); exact rfl; exact rfl; exact (fun w' h => h1.out w' h.grown); infer_instance; exact rfl; (simp only [Act.put, zA, zB, zC])) | ((with_reducible apply wpList_loadAt1 HO); exact rfl; exact rfl; exact (fun w' h => h3.out w' h.grown); infer_instance; exact rfl; (simp only [Act.put, zA, zB, zC])) | ((with_reducible apply wpList_loadAt1 HO); exact rfl; exact rfl; exact (fun w' h => h3'.out w' h.grown); infer_instance; exact rfl; (simp only [Act.put, zA, zB, zC])) | ((with_reducible apply wpList_loadAt HO); exact rfl; exact rfl; exact (fun w' h => hen.out w' h.grown); infer_instance; exact rfl; exact rfl; (simp only [Act.put, zA, zB, zC])) | (first | ((with_reducible apply wpList_lit1 HO); exact rfl; infer_instance; infer_instance; exact rfl; exact rfl; exact (by decide); exact rfl; clear HO; intro bl w HO; (simp only [Act.put, zA, zB, zC])) | ((with_reducible apply wpList_lit1c HO); exact rfl; infer_instance; infer_instance; (first | (simp [Act.eval]; rfl) | exact rfl); exact rfl; exact rfl; clear HO; intro bl w HO; (simp only [Act.put, zA, zB, zC]))) | (go_at_call 11; go_must ((have HO2 : Own W w (row 34 12 (.slice (some ⟨bl, 0, none⟩) 1 1) [entC ⟨ex, ev⟩] :: _) := HO.litRow (A := [entC ⟨ex, ev⟩]) (k := 12) (fun x hx => by rw [List.mem_singleton.1 hx]; rfl) rfl rfl (show (1 : Nat) ≤ maxLen by unfold maxLen; omega)); (with_reducible refine (GR _ _ (one_ents HO2 k8 k9 k10 k11)).mono ?_); clear HO2; rintro e w ⟨rfl, hb⟩; replace HO := HO.call hb; clear hb)))
      go_ret
      exact ⟨rfl, HO.grown⟩
end Go.Proofs.YtibabfedpdoofaaGreatDoor
namespace Go.Own
theorem nineteen {l : List Value} (h : l.length = 19) : ∃ a b c d e f g r, l = a :: b :: c :: d :: e :: f :: g :: r ∧ r.length = 12 := by
  match l, h with
  | a :: b :: c :: d :: e :: f :: g :: r, h => exact ⟨a, b, c, d, e, f, g, r, rfl, by simpa using h⟩
end Go.Own
namespace Go.Proofs.YtibabfedpdoofaaGreatDoor
open Go.RowKit Go.Own Go.ChangeShapes Go.WideShapes Go.Deep

theorem cellsU8 : Tryz.prog.cellsOf 5 = 1 := by kernel_rfl
theorem cellsItem : Tryz.prog.cellsOf 82 = 4 := by kernel_rfl
theorem cellsAct : Tryz.prog.cellsOf 86 = 19 := by kernel_rfl
instance : Inhabited ActI := ⟨⟨0, [], 0, ⟨[], 0, 0, 0⟩, default⟩⟩
def bytC (n : Nat) : List Value := [.int .u8 (n : Int)]
set_option maxRecDepth 100000 in
theorem bytes_of {H : Type} {enc : TypeId × Value → H} {W : World} {base : Nat} {spare : Nat → Bool} {held : Bool} {v : Value} {d : DataW H} {p : List MemPlace}
    (h : DataW.Trod enc Tryz.prog W base spare held 23 v d p) (hv : v.cells.toList = [v]) : ∃ ns : List Nat, IsL W 1 v (ns.map bytC) ∧ ∀ n ∈ ns, n ≤ 255 := by
  obtain ⟨fuel, hf⟩ := h
  obtain ⟨u, ns, e, hI, hw⟩ := slice_of bytC (fun n => n ≤ 255) Tryz.underlying23 cellsU8 (by decide) (fun _ => rfl) (fun fuel' cs x hx hl => by
    obtain ⟨n, e, _, hwf⟩ := DataW.trod_int Tryz.underlying5 hx
    simp [Lit.wf, IntKind.min, IntKind.max, IntKind.bits, IntKind.signed] at hwf
    refine ⟨n.toNat, ?_, by omega⟩
    unfold bytC
    rw [Int.toNat_of_nonneg hwf.1]
    match cs, hl with
    | [c], _ => simpa using e) hf
  rw [hv] at e
  obtain rfl : v = u := by simpa using e
  exact ⟨ns, hI, hw⟩
set_option maxRecDepth 100000 in
set_option maxHeartbeats 4000000 in
theorem actCells_of {H : Type} {enc : TypeId × Value → H} {W : World} {base : Nat} {spare : Nat → Bool} {held : Bool} {fuel : Nat} {cs : List Value} {x : DataW H × List MemPlace}
    (hf : DataW.trod enc Tryz.prog W base spare held fuel 86 cs = some x) (hl : cs.length = 19) : ∃ y : ActI, cs = actC y ∧ ActOk W y := by
  obtain ⟨a, b, c, d, e, f, g, r, rfl, hr⟩ := nineteen hl
  obtain ⟨_, _, h0⟩ := fld Tryz.underlying86 hf 0 _ rfl
  obtain ⟨_, _, h1⟩ := fld Tryz.underlying86 hf 1 _ rfl
  obtain ⟨_, _, h2⟩ := fld Tryz.underlying86 hf 2 _ rfl
  obtain ⟨_, _, h3⟩ := fld Tryz.underlying86 hf 3 _ rfl
  obtain ⟨_, _, h4⟩ := fld Tryz.underlying86 hf 4 _ rfl
  obtain ⟨_, _, i0⟩ := fld Tryz.underlying82 h3 0 _ rfl
  obtain ⟨_, _, i1⟩ := fld Tryz.underlying82 h3 1 _ rfl
  obtain ⟨_, _, i2⟩ := fld Tryz.underlying82 h3 2 _ rfl
  obtain ⟨_, _, i3⟩ := fld Tryz.underlying82 h3 3 _ rfl
  obtain ⟨n0, e0, _, w0⟩ := DataW.trod_int Tryz.underlying5 h0
  obtain ⟨s1, e1, _, l1⟩ := DataW.trod_string Tryz.underlying9 h1
  obtain ⟨n2, e2, _, w2⟩ := DataW.trod_int Tryz.underlying3 h2
  obtain ⟨s3, e3, _, l3⟩ := DataW.trod_string Tryz.underlying9 i0
  obtain ⟨n4, e4, _, w4⟩ := DataW.trod_int Tryz.underlying3 i1
  obtain ⟨n5, e5, _, w5⟩ := DataW.trod_int Tryz.underlying2 i2
  obtain ⟨n6, e6, _, w6⟩ := DataW.trod_int Tryz.underlying3 i3
  obtain ⟨en, er, hu, k2, k3, k4⟩ := entCells_of h4 (by simp [cellsEnt, hr])
  simp [cellsEnt] at er
  rw [List.take_of_length_le (by omega)] at er
  simp [cellsInt, cellsI64, cellsStr, cellsU8, cellsItem] at e0 e1 e2 e3 e4 e5 e6
  subst e0 e1 e2 e3 e4 e5 e6 er
  simp [Lit.wf, IntKind.min, IntKind.max, IntKind.bits, IntKind.signed] at w0
  exact ⟨⟨n0.toNat, s1.data.toList, n2, ⟨s3.data.toList, n4, n5, n6⟩, en⟩, by simp [actC, entC, Int.toNat_of_nonneg w0.1], ⟨by simp only; omega, by simpa using l1, wf_inI w2, by simpa using l3, wf_inI w4, wf_inI w5, wf_inI w6, hu, k2, k3, k4⟩⟩
set_option maxRecDepth 100000 in
theorem acts_of {H : Type} {enc : TypeId × Value → H} {W : World} {base : Nat} {spare : Nat → Bool} {held : Bool} {v : Value} {d : DataW H} {p : List MemPlace}
    (h : DataW.Trod enc Tryz.prog W base spare held 88 v d p) (hv : v.cells.toList = [v]) : ∃ xs : List ActI, IsActs W v xs := by
  obtain ⟨fuel, hf⟩ := h
  obtain ⟨u, es, e, hI, hw⟩ := slice_of actC (fun x => ActOk W x) Tryz.underlying88 cellsAct (by decide) (fun _ => rfl) (fun _ _ _ h hl => actCells_of h hl) hf
  rw [hv] at e
  obtain rfl : v = u := by simpa using e
  exact ⟨es, ⟨hI, hw⟩⟩
set_option maxRecDepth 100000 in
theorem act_of {H : Type} {enc : TypeId × Value → H} {W : World} {b0 base : Nat} {r : Reach} {spare : Nat → Bool} {held : Bool} {v : Value} {d : DataW H} {p : List MemPlace}
    (hv : Value.okWide Tryz.prog W r b0 86 v) (h : DataW.Trod enc Tryz.prog W base spare held 86 v d p) : ∃ x : ActI, v = .agg (actC x).toArray ∧ ActOk W x := by
  obtain ⟨cs, rfl, hsz⟩ := okWide_struct Tryz.underlying86 hv
  obtain ⟨l⟩ := cs
  rw [cellsAct] at hsz
  obtain ⟨fuel, hf⟩ := h
  obtain ⟨x, hx, hok⟩ := actCells_of (cs := l) (by simpa [Value.cells] using hf) (by simpa using hsz)
  exact ⟨x, by rw [hx], hok⟩
end Go.Proofs.YtibabfedpdoofaaGreatDoor

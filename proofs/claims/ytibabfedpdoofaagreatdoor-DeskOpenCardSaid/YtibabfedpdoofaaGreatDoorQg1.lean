/-
  DeskOpen, by walking the law's text; conditions: the arguments lie in memory, the laid tables.
-/
import Derived.Test.YtibabfedpdoofaaGreatDoorQa1
import Derived.Test.YtibabfedpdoofaaGreatDoorQc2
import Derived.Test.YtibabfedpdoofaaGreatDoorQd1
namespace Go.Proofs.YtibabfedpdoofaaGreatDoor
open Go.RowKit Go.Own Go.Maps

theorem half_in {n : Int} (h : inI n = true) : inI (n.tdiv 2) = true ∧ inI (n - n.tdiv 2) = true := by
  have h1 := inI_iff.1 h
  by_cases hn : 0 ≤ n
  · rw [Int.tdiv_eq_ediv_of_nonneg hn]
    exact ⟨inI_iff.2 (by omega), inI_iff.2 (by omega)⟩
  · have e : n.tdiv 2 = -((-n) / 2) := by
      have : n.tdiv 2 = -((-n).tdiv 2) := by rw [Int.neg_tdiv, Int.neg_neg]
      rw [this, Int.tdiv_eq_ediv_of_nonneg (by omega)]
    rw [e]
    exact ⟨inI_iff.2 (by omega), inI_iff.2 (by omega)⟩
theorem openD_snoc {S : CoS} {I : List ItemS} {o n : Int} (x : ItemS) (h : openD S I o = (n, true)) (hS : ∃ y, ordAt S.L o = some y) (hx : x.o = o) : openD S (I ++ [x]) o = if heldS x.s = true then subI n x.a else (n, true) := by
  obtain ⟨y, hy⟩ := hS
  rw [openD_yes hy] at h ⊢
  rw [leftF_snoc, h]
  unfold leftStep
  rw [if_pos rfl, if_pos hx]
/-- What a proposal of a half does. -/
theorem half_law {S : CoS} {I : List ItemS} {o n : Int} {k : Bool} (hn : inI n = true) (h : openD S I o = (n, k)) (hz : propE S I ⟨[97], o, n - n.tdiv 2, 0⟩ = 0) : k = true ∧ propI S I ⟨[97], o, n - n.tdiv 2, 0⟩ = I ++ [⟨[97], o, n - n.tdiv 2, 1⟩] ∧ propN S I ⟨[97], o, n - n.tdiv 2, 0⟩ = (I.length : Int) + 1 ∧
    openD S (I ++ [⟨[97], o, n - n.tdiv 2, 1⟩]) o = (n.tdiv 2, true) ∧ pendE (I ++ [⟨[97], o, n - n.tdiv 2, 1⟩]) [97] ((I.length : Int) + 1) = 0 ∧ refuI (I ++ [⟨[97], o, n - n.tdiv 2, 1⟩]) [97] ((I.length : Int) + 1) = I ++ [⟨[97], o, n - n.tdiv 2, 3⟩] ∧ openD S (I ++ [⟨[97], o, n - n.tdiv 2, 3⟩]) o = (n, true) := by
  obtain ⟨_, h2, h3, _, h5⟩ := prop_zero hz
  simp only at h2 h3
  rw [h] at h3
  simp only at h3
  subst h3
  have hp : pendE (I ++ [⟨[97], o, n - n.tdiv 2, 1⟩]) [97] ((I.length : Int) + 1) = 0 := by
    rw [pend_at (j := I.length) (by decide) rfl (by simp)]
    simp
  refine ⟨rfl, ?_, ?_, ?_, hp, ?_, ?_⟩
  · unfold propI; rw [if_pos hz]
  · unfold propN; rw [if_pos hz]
  · rw [openD_snoc _ h h2 rfl, if_pos (show heldS 1 = true from rfl)]
    show subI n (n - n.tdiv 2) = _
    have e : n - (n - n.tdiv 2) = n.tdiv 2 := by omega
    rw [subI_yes (by rw [e]; exact (half_in hn).1), e]
  · rw [refu_at (j := I.length) rfl hp (by simp)]
    simp
  · rw [openD_snoc _ h h2 rfl, if_neg (show ¬ heldS 3 = true by decide)]

set_option maxHeartbeats 32000000 in
set_option maxRecDepth 100000 in
theorem deskOpen_any {W : World} {v u : Value} {es : List EntI} {ts : List Nat} (h : IsEnts W v es) (ht : IsL W 1 u (ts.map bytC)) (hw : ∀ t ∈ ts, t ≤ 255) (hL : LaidE W) : Calls Tryz.prog 6 #[v, u] W fun e w' => e = .returned (.bool true) ∧ Below W.heap.size W w' := by
  have HO := Own.start W
  have AD := fun (w : World) (hb : Below W.heap.size W w) => signed_any w (hL.below hb)
  have GR := fun (w : World) (hb : Below W.heap.size W w) => great24_any 40 (h.below hb)
  have HT := Lib.hid ht
  have HW := Lib.hid hw
  obtain ⟨tp, tc, rfl, htx⟩ := ht.slice
  rw [List.length_map] at HT ⊢
  by_cases hg : greatL es 40 = true
  · rw [hg] at GR
    clear h ht hw htx HT HW
    go_enter Tryz.func6, Tryz.ntmps6
    go_wp2_with (first | go_big_skip | (go_at_call 11; go_must ((with_reducible refine (GR _ HO.grown).mono ?_); rintro e w ⟨rfl, hb⟩; replace HO := HO.call hb; clear hb)) | (go_at_call 39; go_must ((with_reducible refine (AD _ HO.grown).mono ?_); rintro e w ⟨rfl, hb⟩; replace HO := HO.call hb; clear hb)))
    go_ret
    exact ⟨rfl, HO.grown⟩
  have hl40 : es.length ≤ 40 := by
    simp only [greatL, Bool.or_eq_true, decide_eq_true_eq, not_or] at hg
    omega
  rw [Bool.not_eq_true] at hg
  rw [hg] at GR
  by_cases ht20 : 20 < ts.length
  · have hd : decide ((20 : Int) < (ts.length : Int)) = true := decide_eq_true (by omega)
    clear h ht hw htx HT HW ht20 hg
    go_enter Tryz.func6, Tryz.ntmps6
    go_wp2_with (first | go_big_skip | (go_at_call 11; go_must ((with_reducible refine (GR _ HO.grown).mono ?_); rintro e w ⟨rfl, hb⟩; replace HO := HO.call hb; clear hb)) | (go_at_call 39; go_must ((with_reducible refine (AD _ HO.grown).mono ?_); rintro e w ⟨rfl, hb⟩; replace HO := HO.call hb; clear hb)))
    go_ret
    exact ⟨rfl, HO.grown⟩
  have hd : decide ((20 : Int) < (ts.length : Int)) = false := decide_eq_false (by omega)
  have CR := Lib.hid (fun (w : World) (hO : Own W w []) => cored_any (G := []) hO (fun e he => he) (h.into []) hL (by omega))
  obtain ⟨o1, o2, oi⟩ := coreOf_ok (es.map (·.x)) (es.map (·.x)).length (by simp)
  rw [List.take_length] at o1 o2 oi
  clear h hg ht hw htx
  generalize (coreOf (es.map (·.x))).1 = S at *
  generalize (coreOf (es.map (·.x))).2 = A at *
  go_enter Tryz.func6, Tryz.ntmps6
  go_upto_region 4 with (first | go_big_skip | (go_at_call 11; go_must ((with_reducible refine (GR _ HO.grown).mono ?_); rintro e w ⟨rfl, hb⟩; replace HO := HO.call hb; clear hb)) | (go_at_call 14; go_must ((with_reducible refine (CR.out _ HO).mono ?_); clear CR HO; rintro e w ⟨a, i, x, N, rfl, HO, -⟩)))
  obtain ⟨M, hM⟩ : ∃ M, M = coPs a S i A ++ (inPs i A ++ rcB x A :: (N ++ [])) := ⟨_, rfl⟩
  have hm : ∀ e ∈ coPs a S i A, e ∈ M := fun e he => by rw [hM]; exact List.mem_append_left _ he
  rw [← hM] at HO
  clear hM hd
  go_wp2_with (first | go_big_skip | (go_at_call 40; go_must ((with_reducible refine (dkNew_any _).mono ?_); rintro e w ⟨y, rfl, HO1⟩; replace HO := HO.lift HO1; clear HO1)))
  have hB := o1.bk
  have OP := Lib.hid (fun (w : World) (y : DkA) (I : List ItemS) (hI : ItOk I) (h : Own W w (dkPs y ⟨I, []⟩ ++ M)) (o : Int) (ho : inI o = true) => dkOpen_any (o := o) (Own.dkAt h (dk_in [] y ⟨I, []⟩ M)) (dk_coAt (X := []) hm h) hI hB ho)
  have PR := Lib.hid (fun (w : World) (y : DkA) (I : List ItemS) (hI : ItOk I) (h : Own W w (dkPs y ⟨I, []⟩ ++ M)) (hl : I.length ≤ 1000) (o a9 : Int) (ho : inI o = true) => dkProp_any (a := a) (S := S) (i := i) (A := A) (⟨[97], o, a9, 0⟩ : ItemS) h hm hI hB ho (by show (1 : Nat) ≤ maxLen; unfold maxLen; decide) hl)
  have RF := Lib.hid (fun (w : World) (y : DkA) (I : List ItemS) (h : Own W w (dkPs y ⟨I, []⟩ ++ M)) (n : Int) (hn : inI n = true) => dkRefuse_any (b := [97]) (n := n) h (by unfold maxLen; decide) hn)
  have MN := Lib.hid (fun (w : World) (y : DkA) (I : List ItemS) (h : Own W w (dkPs y ⟨I, []⟩ ++ M)) => dkMany_any (Own.dkAt h (dk_in [] y ⟨I, []⟩ M)))
  simp only [itemV] at PR OP RF MN
  have hBi := Lib.hid (fun o => hB.bal_in 1 o)
  clear o1 o2 oi hm hB
  go_loopw [9] (fun iv wr => ∃ (j : Nat) (y' : DkA) (I : List ItemS), j ≤ ts.length ∧ iv = .int .i64 (j : Int) ∧ y'.t = y.t ∧ ItOk I ∧ I.length ≤ j ∧ Own W wr (dkPs y' ⟨I, []⟩ ++ M)) (fun iv _ => ts.length - (intOf iv).toNat)
  case atStart => exact ⟨0, y, [], by omega, rfl, rfl, (fun x hx => by cases hx), by simp, HO⟩
  case round =>
    clear HO
    obtain ⟨j, y', I, hj, rfl, hyt, hI, hIl, HO⟩ := hrel
    by_cases hjl : j < ts.length
    rotate_left
    · have hjI : ¬ ((j : Int) < (ts.length : Int)) := by omega
      go_wp2_with (first | go_big_skip | (go_at_call 39; go_must ((with_reducible refine (AD _ HO.grown).mono ?_); rintro e w ⟨rfl, hb⟩; replace HO := HO.call hb; clear hb)))
      go_ret
      exact ⟨rfl, HO.grown⟩
    have hjI : (j : Int) < (ts.length : Int) := by omega
    obtain ⟨q, rfl, hst⟩ := oldAt HT.out rfl hjl
    have hu := HW.out _ (List.getElem_mem hjl)
    generalize ts[j] = u at *
    have hu1 := fun w' (h1 : Below W.heap.size W w') => hst w' h1 0 _ rfl
    simp only [Nat.mul_one, add0] at hu1
    replace hu1 := Lib.hid hu1
    clear hst
    have hu0 : (0 : Int) ≤ (u : Int) := by omega
    have hu255 : (u : Int) ≤ 255 := by omega
    obtain ⟨yt, yv, yk, yu, ypm, ybm⟩ := y'
    simp only at hyt
    subst hyt
    have hIn : ∀ o, inI (openD S I o).1 = true := fun o => by
      unfold openD
      split
      · rfl
      · exact leftF_in _ _ _ (hBi.out o)
    replace hIn := Lib.hid hIn
    have hII := Lib.hid hI
    clear hI
    go_upto_region 11 with (first | go_big_skip | (first | go_big_skip | ((with_reducible apply wpList_loadAll HO); exact rfl; exact rfl; (repeat (with_reducible (first | exact At.head _ | apply At.tail))); infer_instance; exact rfl; exact rfl; (simp only [Act.put, zA, zB, zC])) | ((with_reducible apply wpList_loadOne HO); exact rfl; exact rfl; (repeat (with_reducible (first | exact At.head _ | apply At.tail))); exact rfl; infer_instance; exact rfl; (simp only [Act.put, zA, zB, zC]))) | ((with_reducible apply wpList_loadAt1 HO); exact rfl; exact rfl; exact (fun w' h1 => hu1.out w' h1.grown); infer_instance; exact rfl; (simp only [Act.put, zA, zB, zC])))
    obtain ⟨o, ho9⟩ : ∃ o : Int, o = 1 + (u : Int) % 8 := ⟨_, rfl⟩
    rw [← ho9]
    have ho : inI o = true := inI_iff.2 (by omega)
    have hu3 : (u : Int) % 3 = 0 ∨ ¬ (u : Int) % 3 = 0 := by omega
    replace ho9 := Lib.hid ho9
    obtain ⟨n, k, hop⟩ : ∃ n k, openD S I o = (n, k) := ⟨_, _, rfl⟩
    have hn : inI n = true := by
      have := hIn.out o
      rw [hop] at this
      exact this
    obtain ⟨hh1, hh2⟩ := half_in hn
    have hw1 : IntKind.i64.wrap (n.tdiv 2) = n.tdiv 2 := wrap_in hh1
    have hw2 : IntKind.i64.wrap (n - n.tdiv 2) = n - n.tdiv 2 := wrap_in hh2
    have OP1 := fun (w : World) (yv yu : Value) (h : Own W w (dkPs ⟨y.t, yv, yk, yu, ypm, ybm⟩ ⟨I, []⟩ ++ M)) => OP.out w _ I hII.out h o ho
    rw [hop] at OP1
    have PR1 := fun (w : World) (yv yu : Value) (h : Own W w (dkPs ⟨y.t, yv, yk, yu, ypm, ybm⟩ ⟨I, []⟩ ++ M)) => PR.out w _ I hII.out h (by omega) o (n - n.tdiv 2) ho
    simp only at OP1 PR1
    by_cases hz : propE S I ⟨[97], o, n - n.tdiv 2, 0⟩ = 0
    rotate_left
    · have e1 : propI S I ⟨[97], o, n - n.tdiv 2, 0⟩ = I := by unfold propI; rw [if_neg hz]
      have hd : (propE S I ⟨[97], o, n - n.tdiv 2, 0⟩ != 0) = true := by rw [bne_iff_ne]; exact hz
      rw [e1] at PR1
      generalize propE S I ⟨[97], o, n - n.tdiv 2, 0⟩ = e9 at *
      generalize propN S I ⟨[97], o, n - n.tdiv 2, 0⟩ = n9 at *
      clear hz e1 hop
      go_wp2_with (first | go_big_skip | (go_at_call 41; go_must ((with_reducible refine (OP1 _ _ _ HO).mono ?_); rintro e w ⟨rfl, hb⟩; replace HO := HO.call hb; clear hb)) | (go_at_call 42; go_must ((have h9 := PR1 _ _ _ HO); (with_reducible refine h9.mono ?_); clear h9 HO; rintro e w ⟨rfl, v1, HO⟩)))
      go_roundw
      case rel => exact ⟨j + 1, ⟨y.t, v1, yk, yu, ypm, ybm⟩, I, by omega, by go_num, rfl, hII.out, by omega, HO⟩
      case measure => simp [intOf] <;> omega
    obtain ⟨rfl, e1, e2, e3, e4, e5, e6⟩ := half_law hn hop hz
    rw [e1, e2, hz] at PR1
    have hI1 : ItOk (I ++ [⟨[97], o, n - n.tdiv 2, 1⟩]) := fun x hx => by
      rcases List.mem_append.1 hx with hx | hx
      · exact hII.out x hx
      · rw [List.mem_singleton.1 hx]; exact ⟨ho, hh2, rfl, by show (1 : Nat) ≤ maxLen; unfold maxLen; decide⟩
    have hI3 : ItOk (I ++ [⟨[97], o, n - n.tdiv 2, 3⟩]) := fun x hx => by
      rcases List.mem_append.1 hx with hx | hx
      · exact hII.out x hx
      · rw [List.mem_singleton.1 hx]; exact ⟨ho, hh2, rfl, by show (1 : Nat) ≤ maxLen; unfold maxLen; decide⟩
    have OP2 := fun (w : World) (yv : Value) (h : Own W w (dkPs ⟨y.t, yv, yk, yu, ypm, ybm⟩ ⟨I ++ [⟨[97], o, n - n.tdiv 2, 1⟩], []⟩ ++ M)) => OP.out w _ _ hI1 h o ho
    have OP3 := fun (w : World) (yv : Value) (h : Own W w (dkPs ⟨y.t, yv, yk, yu, ypm, ybm⟩ ⟨I ++ [⟨[97], o, n - n.tdiv 2, 3⟩], []⟩ ++ M)) => OP.out w _ _ hI3 h o ho
    have RF1 := fun (w : World) (yv : Value) (h : Own W w (dkPs ⟨y.t, yv, yk, yu, ypm, ybm⟩ ⟨I ++ [⟨[97], o, n - n.tdiv 2, 1⟩], []⟩ ++ M)) => RF.out w _ _ h ((I.length : Int) + 1) (inI_iff.2 (by omega))
    have MN1 := fun (w : World) (yv : Value) (h : Own W w (dkPs ⟨y.t, yv, yk, yu, ypm, ybm⟩ ⟨I ++ [⟨[97], o, n - n.tdiv 2, 1⟩], []⟩ ++ M)) => MN.out w _ _ h
    have hlen1 : ((I ++ [(⟨[97], o, n - n.tdiv 2, 1⟩ : ItemS)]).length : Int) = (I.length : Int) + 1 := by simp
    simp only [e3] at OP2
    simp only [e6] at OP3
    simp only [e4, e5] at RF1
    simp only [hlen1] at MN1
    have hL1 : (I ++ [(⟨[97], o, n - n.tdiv 2, 1⟩ : ItemS)]).length ≤ j + 1 := by simp; omega
    have hL3 : (I ++ [(⟨[97], o, n - n.tdiv 2, 3⟩ : ItemS)]).length ≤ j + 1 := by simp; omega
    have HI1 := Lib.hid hI1
    have HI3 := Lib.hid hI3
    generalize I ++ [(⟨[97], o, n - n.tdiv 2, 1⟩ : ItemS)] = I1 at *
    generalize I ++ [(⟨[97], o, n - n.tdiv 2, 3⟩ : ItemS)] = I3 at *
    clear hz hop e1 e2 e3 e4 e5 e6 hI1 hI3 hlen1
    replace hw1 := hw1
    rcases hu3 with hu3 | hu3
    · go_wp2_with (first | go_big_skip | (first | go_big_skip | ((with_reducible apply wpList_loadAll HO); exact rfl; exact rfl; (repeat (with_reducible (first | exact At.head _ | apply At.tail))); infer_instance; exact rfl; exact rfl; (simp only [Act.put, zA, zB, zC])) | ((with_reducible apply wpList_loadOne HO); exact rfl; exact rfl; (repeat (with_reducible (first | exact At.head _ | apply At.tail))); exact rfl; infer_instance; exact rfl; (simp only [Act.put, zA, zB, zC]))) | ((with_reducible apply wpList_loadAt1 HO); exact rfl; exact rfl; exact (fun w' h1 => hu1.out w' h1.grown); infer_instance; exact rfl; (simp only [Act.put, zA, zB, zC])) | (go_at_call 41; first | ((with_reducible refine (OP1 _ _ _ HO).mono ?_); (rintro e w ⟨rfl, hb⟩; replace HO := HO.call hb; clear hb)) | ((with_reducible refine (OP2 _ _ HO).mono ?_); (rintro e w ⟨rfl, hb⟩; replace HO := HO.call hb; clear hb)) | ((with_reducible refine (OP3 _ _ HO).mono ?_); (rintro e w ⟨rfl, hb⟩; replace HO := HO.call hb; clear hb))) | (go_at_call 42; go_must ((have h9 := PR1 _ _ _ HO); (with_reducible refine h9.mono ?_); clear h9 HO; rintro e w ⟨rfl, v1, HO⟩)) | (go_at_call 43; go_must ((with_reducible refine (MN1 _ _ HO).mono ?_); rintro e w ⟨rfl, hb⟩; replace HO := HO.call hb; clear hb)) | (go_at_call 44; go_must ((have h9 := RF1 _ _ HO); (with_reducible refine h9.mono ?_); clear h9 HO; rintro e w ⟨rfl, HO⟩)))
      go_roundw
      case rel => exact ⟨j + 1, ⟨y.t, v1, yk, yu, ypm, ybm⟩, I3, by omega, by go_num, rfl, HI3.out, hL3, HO⟩
      case measure => simp [intOf] <;> omega
    · go_wp2_with (first | go_big_skip | (first | go_big_skip | ((with_reducible apply wpList_loadAll HO); exact rfl; exact rfl; (repeat (with_reducible (first | exact At.head _ | apply At.tail))); infer_instance; exact rfl; exact rfl; (simp only [Act.put, zA, zB, zC])) | ((with_reducible apply wpList_loadOne HO); exact rfl; exact rfl; (repeat (with_reducible (first | exact At.head _ | apply At.tail))); exact rfl; infer_instance; exact rfl; (simp only [Act.put, zA, zB, zC]))) | ((with_reducible apply wpList_loadAt1 HO); exact rfl; exact rfl; exact (fun w' h1 => hu1.out w' h1.grown); infer_instance; exact rfl; (simp only [Act.put, zA, zB, zC])) | (go_at_call 41; first | ((with_reducible refine (OP1 _ _ _ HO).mono ?_); (rintro e w ⟨rfl, hb⟩; replace HO := HO.call hb; clear hb)) | ((with_reducible refine (OP2 _ _ HO).mono ?_); (rintro e w ⟨rfl, hb⟩; replace HO := HO.call hb; clear hb))) | (go_at_call 42; go_must ((have h9 := PR1 _ _ _ HO); (with_reducible refine h9.mono ?_); clear h9 HO; rintro e w ⟨rfl, v1, HO⟩)) | (go_at_call 43; go_must ((with_reducible refine (MN1 _ _ HO).mono ?_); rintro e w ⟨rfl, hb⟩; replace HO := HO.call hb; clear hb)))
      go_roundw
      case rel => exact ⟨j + 1, ⟨y.t, v1, yk, yu, ypm, ybm⟩, I1, by omega, by go_num, rfl, HI1.out, hL1, HO⟩
      case measure => simp [intOf] <;> omega
end Go.Proofs.YtibabfedpdoofaaGreatDoor

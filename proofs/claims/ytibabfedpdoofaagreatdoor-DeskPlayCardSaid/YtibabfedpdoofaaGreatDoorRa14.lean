/-
  Acts in memory, whether they are more than is gone through; by walking the law's text; conditions: the acts lie in memory.
  Acts and bytes that came in, opened; conditions: none.
  DeskTwo, by walking the law's text; conditions: the arguments lie in memory, the laid tables.
  DeskPlay, by walking the law's text; conditions: the arguments lie in memory, the laid tables. (Printed by wip/mkdkplay.py.)
  DeskPlay, by walking the law's text; conditions: the arguments lie in memory, the laid tables. (Printed by wip/mkdkplw.py.)
-/
import Derived.Test.YtibabfedpdoofaaGreatDoorRa1
import Derived.Test.YtibabfedpdoofaaGreatDoorRa8
import Derived.Test.YtibabfedpdoofaaGreatDoorRa11
import Derived.Test.YtibabfedpdoofaaGreatDoorRa13
namespace Go.Proofs.YtibabfedpdoofaaGreatDoor
open Go.RowKit Go.Own Go.Maps

structure ActI where
  k : Nat
  b : List UInt8
  n : Int
  it : ItemS
  e : EntI
def actC (x : ActI) : List Value := [.int .u8 (x.k : Int), .string ⟨x.b.toArray⟩, .int .i64 x.n, .string ⟨x.it.b.toArray⟩, .int .i64 x.it.o, .int .i64 x.it.a, .int .i64 x.it.s, .int .i64 x.e.x.k, .int .i64 x.e.x.id, .string ⟨x.e.x.ref.toArray⟩, .string ⟨x.e.x.sku.toArray⟩, .int .i64 x.e.x.qty, .int .i64 x.e.x.amt, .int .i64 x.e.x.o, .int .i64 x.e.x.d, .int .i64 x.e.x.c, .int .i64 x.e.x.p, .int .i64 x.e.x.q, x.e.v]
structure ActOk (W : World) (x : ActI) : Prop where
  k : x.k ≤ 255
  b : x.b.length ≤ maxLen
  n : inI x.n = true
  ib : x.it.b.length ≤ maxLen
  io : inI x.it.o = true
  ia : inI x.it.a = true
  is : inI x.it.s = true
  r : IsRows W x.e.v x.e.x.rs
  ref : x.e.x.ref.length ≤ maxLen
  sku : x.e.x.sku.length ≤ maxLen
  o : inI x.e.x.o = true
structure IsActs (W : World) (v : Value) (xs : List ActI) : Prop where
  l : IsL W 19 v (xs.map actC)
  r : ∀ x ∈ xs, ActOk W x
theorem ActOk.below {W w : World} {x : ActI} (h : ActOk W x) (hb : Below W.heap.size W w) : ActOk w x := { h with r := h.r.below hb h.r.lt }
theorem IsActs.below {W w : World} {v : Value} {l : List ActI} (h : IsActs W v l) (hb : Below W.heap.size W w) : IsActs w v l := ⟨h.l.below hb h.l.lt, fun x hx => (h.r x hx).below hb⟩
def greatX (x : ActI) : Bool := decide (100 < x.b.length) || decide (100 < x.it.b.length) || greatL [x.e] 1
def greatA (l : List ActI) (most : Int) : Bool := l.any greatX || decide (most < (l.length : Int))
theorem addr_add9 (a : Addr) (m k : Nat) : (a.add m).add k = a.add (m + k) := by
  unfold Addr.add
  by_cases hm : m = 0
  · subst hm; simp
  · by_cases hk : k = 0
    · subst hk; simp [hm]
    · simp [hm, hk, Nat.add_assoc]
theorem act_ent {w : World} {a : Addr} {x : ActI} (h : ∀ i u, (actC x)[i]? = some u → w.cell? (a.add i) = some u) : ∀ i u, (entC x.e)[i]? = some u → w.cell? ((a.add 7).add i) = some u := fun i u hu => by
  rw [addr_add9]
  refine h (7 + i) u ?_
  rw [show (actC x) = [.int .u8 (x.k : Int), .string ⟨x.b.toArray⟩, .int .i64 x.n, .string ⟨x.it.b.toArray⟩, .int .i64 x.it.o, .int .i64 x.it.a, .int .i64 x.it.s] ++ entC x.e from rfl, List.getElem?_append_right (by simp)]
  simpa using hu
theorem one_ents {W w : World} {v : Value} {e : EntI} {L : List Ent} (hO : Own W w (row 34 12 v [entC e] :: L)) (hr : IsRows W e.v e.x.rs) (h1 : e.x.ref.length ≤ maxLen) (h2 : e.x.sku.length ≤ maxLen) (h3 : inI e.x.o = true) : IsEnts w v [e] :=
  ⟨isL_of_owns (fun x hx => by rw [List.mem_singleton.1 hx]; rfl) (hO.has _ List.mem_cons_self), fun y hy => by rw [List.mem_singleton.1 hy]; exact ⟨hr.below hO.grown hr.lt, h1, h2, h3⟩⟩

set_option maxHeartbeats 16000000 in
set_option maxRecDepth 100000 in
theorem great32_any {W : World} {v : Value} {l : List ActI} (most : Int) (h : IsActs W v l) : Calls Tryz.prog 45 #[v, .int .i64 most] W fun e w' => e = .returned (.bool (greatA l most)) ∧ Below W.heap.size W w' := by
  have HO := Own.start W
  have HR := Lib.hid h.r
  have HH := Lib.hid h.l
  obtain ⟨sp, sc, rfl, hmx⟩ := h.l.slice
  rw [List.length_map] at HH hmx ⊢
  have hmx' : (l.length : Int) ≤ 9223372036854775807 := by unfold maxLen at hmx; omega
  clear h
  generalize hg : greatA l most = g0
  replace hg := Lib.hid hg
  go_enter Tryz.func45, Tryz.ntmps45
  go_wp2_with fail
  go_loopw [5] (fun iv wr => ∃ j : Nat, j ≤ l.length ∧ iv = .int .i64 (j : Int) ∧ (l.take j).any greatX = false ∧ Own W wr []) (fun iv _ => l.length - (intOf iv).toNat)
  case atStart => exact ⟨0, by omega, rfl, rfl, HO⟩
  case round =>
    clear HO
    obtain ⟨j, hj, rfl, hnf, HO⟩ := hrel
    by_cases hjl : j < l.length
    rotate_left
    · obtain rfl : j = l.length := by omega
      rw [List.take_length] at hnf
      have hjI : ¬ ((l.length : Int) < (l.length : Int)) := by omega
      obtain rfl : g0 = decide (most < (l.length : Int)) := by rw [← hg.out]; unfold greatA; rw [hnf, Bool.false_or]
      clear hnf
      go_wp2_with fail
      go_ret
      exact ⟨rfl, HO.grown⟩
    have hjI : (j : Int) < (l.length : Int) := by omega
    obtain ⟨q, rfl, hst⟩ := oldAt HH.out rfl hjl
    have hok := HR.out _ (List.getElem_mem hjl)
    have HX := Lib.hid (show greatX l[j] = false → (l.take (j + 1)).any greatX = false from fun hx => by
      rw [List.take_succ_eq_append_getElem hjl, List.any_append, hnf]
      simpa using hx)
    have HY := Lib.hid (show greatX l[j] = true → g0 = true from fun hx => by
      rw [← hg.out]
      unfold greatA
      rw [Bool.or_eq_true, List.any_eq_true]
      exact .inl ⟨l[j], List.getElem_mem hjl, hx⟩)
    clear hnf
    generalize l[j] = y at *
    obtain ⟨yk, yb, yn, ⟨ib, io, ia, is⟩, ⟨ex, ev⟩⟩ := y
    have hen := Lib.hid (fun w' (hb : Below W.heap.size W w') => act_ent (x := ⟨yk, yb, yn, ⟨ib, io, ia, is⟩, ⟨ex, ev⟩⟩) (hst w' hb))
    have h1 := Lib.hid (fun w' (hb : Below W.heap.size W w') => hst w' hb 1 (.string ⟨yb.toArray⟩) rfl)
    have h3 := Lib.hid (fun w' (hb : Below W.heap.size W w') => hst w' hb 3 (.string ⟨ib.toArray⟩) rfl)
    obtain ⟨k1, k2, k3, k4, k5, k6, k7, k8, k9, k10, k11⟩ := hok
    simp only at k1 k2 k3 k4 k5 k6 k7 k8 k9 k10 k11
    unfold entC at hen
    simp only at hen
    have h3' := Lib.hid (fun w' (hb : Below W.heap.size W w') => show w'.cell? (((q.add (j * 19)).add 3).add 0) = some (.string ⟨ib.toArray⟩) by rw [add0]; exact h3.out w' hb)
    unfold maxLen at k2 k4
    clear hst k1 k3 k5 k6 k7
    unfold greatX at HX HY
    simp only at HX HY
    by_cases c1 : 100 < yb.length
    · obtain rfl := HY.out (by rw [decide_eq_true c1]; rfl)
      have d1 : decide ((100 : Int) < (yb.length : Int)) = true := decide_eq_true (by omega)
      clear HX HY c1
      go_wp2_with (((with_reducible apply wpList_loadAt1 HO); exact rfl; exact rfl; exact (fun w' h => h1.out w' h.grown); infer_instance; exact rfl; (simp only [Act.put, zA, zB, zC])))
      go_ret
      exact ⟨rfl, HO.grown⟩
    have d1 : decide ((100 : Int) < (yb.length : Int)) = false := decide_eq_false (by omega)
    rw [decide_eq_false c1, Bool.false_or] at HX HY
    by_cases c2 : 100 < ib.length
    · obtain rfl := HY.out (by rw [decide_eq_true c2]; rfl)
      have d2 : decide ((100 : Int) < (ib.length : Int)) = true := decide_eq_true (by omega)
      clear HX HY c1 c2
      go_wp2_with (first | ((with_reducible apply wpList_loadAt1 HO); exact rfl; exact rfl; exact (fun w' h => h1.out w' h.grown); infer_instance; exact rfl; (simp only [Act.put, zA, zB, zC])) | ((with_reducible apply wpList_loadAt1 HO); exact rfl; exact rfl; exact (fun w' h => h3.out w' h.grown); infer_instance; exact rfl; (simp only [Act.put, zA, zB, zC])))
      go_ret
      exact ⟨rfl, HO.grown⟩
    have d2 : decide ((100 : Int) < (ib.length : Int)) = false := decide_eq_false (by omega)
    rw [decide_eq_false c2, Bool.false_or] at HX HY
    have GR := fun (w : World) (v : Value) (h : IsEnts w v [⟨ex, ev⟩]) => great24_any 1 h
    clear c1 c2
    cases hgr : greatL [⟨ex, ev⟩] 1
    · have HZ := Lib.hid (HX.out hgr)
      rw [hgr] at GR
      clear HX HY hgr
      go_wp2_with (first | ((with_reducible apply wpList_loadAt1 HO); exact rfl; exact rfl; exact (fun w' h => h1.out w' h.grown); infer_instance; exact rfl; (simp only [Act.put, zA, zB, zC])) | ((with_reducible apply wpList_loadAt1 HO); exact rfl; exact rfl; exact (fun w' h => h3.out w' h.grown); infer_instance; exact rfl; (simp only [Act.put, zA, zB, zC])) | ((with_reducible apply wpList_loadAt HO); exact rfl; exact rfl; exact (fun w' h => hen.out w' h.grown); infer_instance; exact rfl; exact rfl; (simp only [Act.put, zA, zB, zC])) | (((with_reducible apply wpList_lit1 HO); exact rfl; infer_instance; infer_instance; exact rfl; exact rfl; exact (by decide); exact rfl; clear HO; intro bl w HO; (simp only [Act.put, zA, zB, zC]))) | (go_at_call 11; go_must ((have HO2 : Own W w (row 34 12 (.slice (some ⟨bl, 0, none⟩) 1 1) [entC ⟨ex, ev⟩] :: _) := HO.litRow (A := [entC ⟨ex, ev⟩]) (k := 12) (fun x hx => by rw [List.mem_singleton.1 hx]; rfl) rfl rfl (show (1 : Nat) ≤ maxLen by unfold maxLen; omega)); (with_reducible refine (GR _ _ (one_ents HO2 k8 k9 k10 k11)).mono ?_); clear HO2; rintro e w ⟨rfl, hb⟩; replace HO := HO.call hb; clear hb)))
      replace HO := HO.tail
      go_roundw
      case rel => exact ⟨j + 1, by omega, by go_num, HZ.out, HO⟩
      case measure => simp [intOf] <;> omega
    · obtain rfl := HY.out hgr
      rw [hgr] at GR
      clear HX HY hgr
      go_wp2_with (first | ((with_reducible apply wpList_loadAt1 HO); exact rfl; exact rfl; exact (fun w' h => h1.out w' h.grown); infer_instance; exact rfl; (simp only [Act.put, zA, zB, zC])) | ((with_reducible apply wpList_loadAt1 HO); exact rfl; exact rfl; exact (fun w' h => h3.out w' h.grown); infer_instance; exact rfl; (simp only [Act.put, zA, zB, zC])) | ((with_reducible apply wpList_loadAt HO); exact rfl; exact rfl; exact (fun w' h => hen.out w' h.grown); infer_instance; exact rfl; exact rfl; (simp only [Act.put, zA, zB, zC])) | (((with_reducible apply wpList_lit1 HO); exact rfl; infer_instance; infer_instance; exact rfl; exact rfl; exact (by decide); exact rfl; clear HO; intro bl w HO; (simp only [Act.put, zA, zB, zC]))) | (go_at_call 11; go_must ((have HO2 : Own W w (row 34 12 (.slice (some ⟨bl, 0, none⟩) 1 1) [entC ⟨ex, ev⟩] :: _) := HO.litRow (A := [entC ⟨ex, ev⟩]) (k := 12) (fun x hx => by rw [List.mem_singleton.1 hx]; rfl) rfl rfl (show (1 : Nat) ≤ maxLen by unfold maxLen; omega)); (with_reducible refine (GR _ _ (one_ents HO2 k8 k9 k10 k11)).mono ?_); clear HO2; rintro e w ⟨rfl, hb⟩; replace HO := HO.call hb; clear hb)))
      go_ret
      exact ⟨rfl, HO.grown⟩
end Go.Proofs.YtibabfedpdoofaaGreatDoor
namespace Go.Own
theorem nineteen {l : List Value} (h : l.length = 19) : ∃ a b c d e f g r, l = a :: b :: c :: d :: e :: f :: g :: r ∧ r.length = 12 := by
  match l, h with
  | a :: b :: c :: d :: e :: f :: g :: r, h => exact ⟨a, b, c, d, e, f, g, r, rfl, by simpa using h⟩
end Go.Own
namespace Go.Proofs.YtibabfedpdoofaaGreatDoor
open Go.RowKit Go.Own Go.ChangeShapes Go.WideShapes Go.Deep

theorem cellsU8 : Tryz.prog.cellsOf 5 = 1 := by kernel_rfl
theorem cellsItem : Tryz.prog.cellsOf 82 = 4 := by kernel_rfl
theorem cellsAct : Tryz.prog.cellsOf 86 = 19 := by kernel_rfl
instance : Inhabited ActI := ⟨⟨0, [], 0, ⟨[], 0, 0, 0⟩, default⟩⟩
set_option maxRecDepth 100000 in
set_option maxHeartbeats 4000000 in
theorem actCells_of {H : Type} {enc : TypeId × Value → H} {W : World} {base : Nat} {spare : Nat → Bool} {held : Bool} {fuel : Nat} {cs : List Value} {x : DataW H × List MemPlace}
    (hf : DataW.trod enc Tryz.prog W base spare held fuel 86 cs = some x) (hl : cs.length = 19) : ∃ y : ActI, cs = actC y ∧ ActOk W y := by
  obtain ⟨a, b, c, d, e, f, g, r, rfl, hr⟩ := nineteen hl
  obtain ⟨_, _, h0⟩ := fld Tryz.underlying86 hf 0 _ rfl
  obtain ⟨_, _, h1⟩ := fld Tryz.underlying86 hf 1 _ rfl
  obtain ⟨_, _, h2⟩ := fld Tryz.underlying86 hf 2 _ rfl
  obtain ⟨_, _, h3⟩ := fld Tryz.underlying86 hf 3 _ rfl
  obtain ⟨_, _, h4⟩ := fld Tryz.underlying86 hf 4 _ rfl
  obtain ⟨_, _, i0⟩ := fld Tryz.underlying82 h3 0 _ rfl
  obtain ⟨_, _, i1⟩ := fld Tryz.underlying82 h3 1 _ rfl
  obtain ⟨_, _, i2⟩ := fld Tryz.underlying82 h3 2 _ rfl
  obtain ⟨_, _, i3⟩ := fld Tryz.underlying82 h3 3 _ rfl
  obtain ⟨n0, e0, _, w0⟩ := DataW.trod_int Tryz.underlying5 h0
  obtain ⟨s1, e1, _, l1⟩ := DataW.trod_string Tryz.underlying9 h1
  obtain ⟨n2, e2, _, w2⟩ := DataW.trod_int Tryz.underlying3 h2
  obtain ⟨s3, e3, _, l3⟩ := DataW.trod_string Tryz.underlying9 i0
  obtain ⟨n4, e4, _, w4⟩ := DataW.trod_int Tryz.underlying3 i1
  obtain ⟨n5, e5, _, w5⟩ := DataW.trod_int Tryz.underlying2 i2
  obtain ⟨n6, e6, _, w6⟩ := DataW.trod_int Tryz.underlying3 i3
  obtain ⟨en, er, hu, k2, k3, k4⟩ := entCells_of h4 (by simp [cellsEnt, hr])
  simp [cellsEnt] at er
  rw [List.take_of_length_le (by omega)] at er
  simp [cellsInt, cellsI64, cellsStr, cellsU8, cellsItem] at e0 e1 e2 e3 e4 e5 e6
  subst e0 e1 e2 e3 e4 e5 e6 er
  simp [Lit.wf, IntKind.min, IntKind.max, IntKind.bits, IntKind.signed] at w0
  exact ⟨⟨n0.toNat, s1.data.toList, n2, ⟨s3.data.toList, n4, n5, n6⟩, en⟩, by simp [actC, entC, Int.toNat_of_nonneg w0.1], ⟨by simp only; omega, by simpa using l1, wf_inI w2, by simpa using l3, wf_inI w4, wf_inI w5, wf_inI w6, hu, k2, k3, k4⟩⟩
set_option maxRecDepth 100000 in
theorem acts_of {H : Type} {enc : TypeId × Value → H} {W : World} {base : Nat} {spare : Nat → Bool} {held : Bool} {v : Value} {d : DataW H} {p : List MemPlace}
    (h : DataW.Trod enc Tryz.prog W base spare held 88 v d p) (hv : v.cells.toList = [v]) : ∃ xs : List ActI, IsActs W v xs := by
  obtain ⟨fuel, hf⟩ := h
  obtain ⟨u, es, e, hI, hw⟩ := slice_of actC (fun x => ActOk W x) Tryz.underlying88 cellsAct (by decide) (fun _ => rfl) (fun _ _ _ h hl => actCells_of h hl) hf
  rw [hv] at e
  obtain rfl : v = u := by simpa using e
  exact ⟨es, ⟨hI, hw⟩⟩
end Go.Proofs.YtibabfedpdoofaaGreatDoor
namespace Go.Proofs.YtibabfedpdoofaaGreatDoor
open Go.RowKit Go.Own Go.Maps

theorem dkPropX {W w : World} {X R : List Ent} {x : DkA} {D : DkS} {a : CoA} {S : CoS} {i : InA} {A : InS} (y : ItemS) (h : Own W w (X ++ (dkPs x D ++ R))) (hm : ∀ e ∈ coPs a S i A, e ∈ R) (hI : ItOk D.I) (hB : Bk S.P) (hy : inI y.o = true) (hyb : y.b.length ≤ maxLen) (hlen : D.I.length ≤ 1000) :
    Calls Tryz.prog 42 #[.pointer (some ⟨x.t, 0, none⟩), .pointer (some ⟨a.c, 0, none⟩), itemV y] w fun e w' => e = .returned (.tuple #[.int .i64 (propN S D.I y), .int .i64 (propE S D.I y)]) ∧ ∃ v', Own W w' (X ++ (dkPs { x with v := v' } ⟨propI S D.I y, D.P⟩ ++ R)) :=
  (dkProp_any y (h.perm (List.perm_append_comm_assoc X (dkPs x D) R)) (fun e he => List.mem_append_right _ (hm e he)) hI hB hy hyb hlen).mono fun e w' h9 => by
    obtain ⟨he, v', h1⟩ := h9
    exact ⟨he, v', h1.perm (List.perm_append_comm_assoc X _ R).symm⟩
theorem dkApprX {W w : World} {X R : List Ent} {x : DkA} {D : DkS} {a : CoA} {S : CoS} {i : InA} {A : InS} {b : List UInt8} {n : Int} (h : Own W w (X ++ (dkPs x D ++ R))) (hm : ∀ e ∈ coPs a S i A, e ∈ R) (hI : ItOk D.I) (hBk : Bk D.P) (hB : Bk S.P) (hb : b.length ≤ maxLen) (hi : inI n = true) (hlen : D.P.length ≤ 99000) (hl1 : D.I.length ≤ 1000) (hL : LaidE W) :
    Calls Tryz.prog 47 #[.pointer (some ⟨x.t, 0, none⟩), .pointer (some ⟨a.c, 0, none⟩), .string ⟨b.toArray⟩, .int .i64 n] w fun e w' => e = .returned (.int .i64 (apprE S D b n)) ∧ ∃ u', Own W w' (X ++ (dkPs { x with u := u' } (apprD S D b n) ++ R)) :=
  (dkAppr_any (h.perm (List.perm_append_comm_assoc X (dkPs x D) R)) (fun e he => List.mem_append_right _ (hm e he)) hI hBk hB hb hi hlen hl1 hL).mono fun e w' h9 => by
    obtain ⟨he, v', h1⟩ := h9
    exact ⟨he, v', h1.perm (List.perm_append_comm_assoc X _ R).symm⟩
theorem dkRefuseX {W w : World} {X R : List Ent} {x : DkA} {D : DkS} {b : List UInt8} {n : Int} (h : Own W w (X ++ (dkPs x D ++ R))) (hb : b.length ≤ maxLen) (hi : inI n = true) :
    Calls Tryz.prog 44 #[.pointer (some ⟨x.t, 0, none⟩), .string ⟨b.toArray⟩, .int .i64 n] w fun e w' => e = .returned (.int .i64 (pendE D.I b n)) ∧ Own W w' (X ++ (dkPs x ⟨refuI D.I b n, D.P⟩ ++ R)) :=
  (dkRefuse_any (h.perm (List.perm_append_comm_assoc X (dkPs x D) R)) hb hi).mono fun _e _w' h9 => ⟨h9.1, h9.2.perm (List.perm_append_comm_assoc X _ R).symm⟩
theorem DkOk.itOk {D : DkS} (h : DkOk D) : ItOk D.I := fun x hx => by
  obtain ⟨h1, h2, h3, h4, h5⟩ := h.it x hx
  exact ⟨inI_iff.2 (by omega), h3, h5, by unfold maxLen; omega⟩
theorem postL_len9 (l : List Pst) (p : Pst) : (postL l p).length ≤ l.length + 1 := by
  unfold postL
  split
  · simp
  · omega
theorem apprD_len (S : CoS) (D : DkS) (b : List UInt8) (n : Int) : (apprD S D b n).P.length ≤ D.P.length + 1 := by
  unfold apprD
  split
  · split
    · omega
    · exact postL_len9 _ _
  · omega
end Go.Proofs.YtibabfedpdoofaaGreatDoor
namespace Go.Proofs.YtibabfedpdoofaaGreatDoor
open Go.RowKit Go.Own Go.Maps

theorem pl_ref (Z : Ent) (K R L : List Ent) : (Z :: (K ++ (R ++ L))).Perm (R ++ (Z :: (K ++ L))) := by
  have h : ((Z :: K) ++ (R ++ L)).Perm (R ++ ((Z :: K) ++ L)) := List.perm_append_comm_assoc _ _ _
  exact h
theorem pl_core (Z : Ent) (K R C I L : List Ent) : (Z :: (K ++ (R ++ (C ++ (I ++ L))))).Perm (C ++ (I ++ (Z :: (K ++ (R ++ L))))) := by
  have h : (((Z :: K) ++ R) ++ (C ++ (I ++ L))).Perm (C ++ (I ++ (((Z :: K) ++ R) ++ L))) := (List.perm_append_comm_assoc _ _ _).trans (List.Perm.append_left C (List.perm_append_comm_assoc _ _ _))
  simpa [List.append_assoc] using h
theorem pl_rc (Z X : Ent) (K R C I L : List Ent) : (Z :: (K ++ (R ++ (C ++ (I ++ (X :: L)))))).Perm (X :: (Z :: (K ++ (R ++ (C ++ (I ++ L)))))) := by
  have h := List.perm_middle (a := X) (l₁ := Z :: (K ++ (R ++ (C ++ I)))) (l₂ := L)
  simpa [List.append_assoc] using h
theorem pl_rc2 (Z X : Ent) (K R C I L N' : List Ent) : (X :: (N' ++ (Z :: (K ++ (R ++ (C ++ (I ++ L))))))).Perm (Z :: (K ++ (R ++ (C ++ (I ++ (X :: (N' ++ L))))))) := by
  have h1 : ((X :: N') ++ ((Z :: (K ++ (R ++ (C ++ I)))) ++ L)).Perm ((Z :: (K ++ (R ++ (C ++ I)))) ++ ((X :: N') ++ L)) := List.perm_append_comm_assoc _ _ _
  simpa [List.append_assoc] using h1
theorem RcM.of {W : World} {N M : List Ent} {x : RcA} {S : CoS} {A : InS} (h : RcIn W N x S A) (hb : rcB x A ∈ M) (hm : ∀ e ∈ N, e ∈ M) : RcM W M x S A := fun _w _L hO hL => h.full hO (fun e he => hL e (hm e he)) (hL _ hb)
theorem appr_min {S : CoS} {D : DkS} {b : List UInt8} {n : Int} {z : ItemS} (hz : apprE S D b n = 0) (hp : pendE D.I b n = 0) (hx : itemAt D.I n = some z) : z.a ≠ -9223372036854775808 := fun h => by
  rw [appr_at hp hx] at hz
  unfold apprX at hz
  by_cases h1 : z.b = b
  · rw [if_pos h1] at hz; cases hz
  · rw [if_neg h1] at hz
    by_cases h2 : (leftF D.I (bal S.P 1 z.o) z.o writS).2 = true ∧ withinB z.a (leftF D.I (bal S.P 1 z.o) z.o writS).1 = true
    · rw [if_pos h2, if_pos h] at hz; cases hz
    · rw [if_neg h2] at hz; cases hz
/-- The desk's postings are ones that may lie in memory. -/
def PWf (D : DkS) : Prop := ∀ p ∈ D.P, WfP p
theorem pwf_appr {S : CoS} {D : DkS} {b : List UInt8} {n : Int} (h : DkOk D) (hS : Bk S.P) (hw : PWf D) : PWf (apprD S D b n) := by
  by_cases hz : apprE S D b n = 0
  · have hp : pendE D.I b n = 0 := by
      by_cases hp : pendE D.I b n = 0
      · exact hp
      · rw [(appr_pend hp).1] at hz; exact hz
    obtain ⟨j, hj, hn, hs1, hat, _, hDe, _, _, _, _⟩ := appr_zero h hS hz
    have hmin := appr_min hz hp hat
    have hl := h.len
    obtain ⟨h1, h2, h3, _, _⟩ := h.it _ (List.getElem_mem hj)
    have h3 := inI_iff.1 h3
    have hsz : (wK n).size ≤ maxLen := by
      unfold wK
      rw [ByteArray.size_append]
      have h9 := Lib.itoa_length_le n (by omega) (by omega)
      have h8 : (⟨(Lib.itoa n).toArray⟩ : ByteArray).size ≤ 21 := by
        show (Lib.itoa n).toArray.size ≤ 21
        simpa using h9
      show 1 + (⟨(Lib.itoa n).toArray⟩ : ByteArray).size ≤ maxLen
      unfold maxLen
      omega
    rw [hDe]
    intro p hp9
    rcases List.mem_append.1 hp9 with hp9 | hp9
    · exact hw p hp9
    · rw [List.mem_singleton.1 hp9]
      unfold wPst
      split
      · exact ⟨inI_iff.2 (by simp only; omega), rfl, rfl, inI_iff.2 (by simp only; omega), hsz⟩
      · exact ⟨inI_iff.2 (by simp only; omega), rfl, rfl, inI_iff.2 (by simp only; omega), hsz⟩
  · rw [apprD_no hz]; exact hw

theorem plProp {W w : World} {Z : Ent} {N : List Ent} {y : DkA} {D1 D2 : DkS} {t : Nat} {v u : Value} {a : CoA} {S : CoS} {i : InA} {A A2 : InS} {x : RcA} (z : ItemS) (h : Own W w (Z :: (dkPs y D1 ++ (rdPs t v u D2 ++ (coPs a S i A ++ (inPs i A ++ (rcB x A2 :: N))))))) (hI : ItOk D1.I) (hB : Bk S.P) (hy : inI z.o = true) (hyb : z.b.length ≤ maxLen) (hlen : D1.I.length ≤ 1000) :
    Calls Tryz.prog 42 #[.pointer (some ⟨y.t, 0, none⟩), .pointer (some ⟨a.c, 0, none⟩), .agg #[.string ⟨z.b.toArray⟩, .int .i64 z.o, .int .i64 z.a, .int .i64 z.s]] w fun e w' => e = .returned (.tuple #[.int .i64 (propN S D1.I z), .int .i64 (propE S D1.I z)]) ∧ ∃ v', Own W w' (Z :: (dkPs { y with v := v' } ⟨propI S D1.I z, D1.P⟩ ++ (rdPs t v u D2 ++ (coPs a S i A ++ (inPs i A ++ (rcB x A2 :: N)))))) :=
  dkPropX (X := [Z]) z h (fun _e he => List.mem_append_right _ (List.mem_append_left _ he)) hI hB hy hyb hlen
theorem plAppr {W w : World} {Z : Ent} {N : List Ent} {y : DkA} {D1 D2 : DkS} {t : Nat} {v u : Value} {a : CoA} {S : CoS} {i : InA} {A A2 : InS} {x : RcA} {b : List UInt8} {n : Int} (h : Own W w (Z :: (dkPs y D1 ++ (rdPs t v u D2 ++ (coPs a S i A ++ (inPs i A ++ (rcB x A2 :: N))))))) (hI : ItOk D1.I) (hBk : Bk D1.P) (hB : Bk S.P) (hb : b.length ≤ maxLen) (hi : inI n = true) (hlen : D1.P.length ≤ 99000) (hl1 : D1.I.length ≤ 1000) (hL : LaidE W) :
    Calls Tryz.prog 47 #[.pointer (some ⟨y.t, 0, none⟩), .pointer (some ⟨a.c, 0, none⟩), .string ⟨b.toArray⟩, .int .i64 n] w fun e w' => e = .returned (.int .i64 (apprE S D1 b n)) ∧ ∃ u', Own W w' (Z :: (dkPs { y with u := u' } (apprD S D1 b n) ++ (rdPs t v u D2 ++ (coPs a S i A ++ (inPs i A ++ (rcB x A2 :: N)))))) :=
  dkApprX (X := [Z]) h (fun _e he => List.mem_append_right _ (List.mem_append_left _ he)) hI hBk hB hb hi hlen hl1 hL
theorem plRefuse {W w : World} {Z : Ent} {N : List Ent} {y : DkA} {D1 D2 : DkS} {t : Nat} {v u : Value} {a : CoA} {S : CoS} {i : InA} {A A2 : InS} {x : RcA} {b : List UInt8} {n : Int} (h : Own W w (Z :: (dkPs y D1 ++ (rdPs t v u D2 ++ (coPs a S i A ++ (inPs i A ++ (rcB x A2 :: N))))))) (hb : b.length ≤ maxLen) (hi : inI n = true) :
    Calls Tryz.prog 44 #[.pointer (some ⟨y.t, 0, none⟩), .string ⟨b.toArray⟩, .int .i64 n] w fun e w' => e = .returned (.int .i64 (pendE D1.I b n)) ∧ Own W w' (Z :: (dkPs y ⟨refuI D1.I b n, D1.P⟩ ++ (rdPs t v u D2 ++ (coPs a S i A ++ (inPs i A ++ (rcB x A2 :: N)))))) :=
  dkRefuseX (X := [Z]) h hb hi
theorem plRProp {W w : World} {Z : Ent} {N : List Ent} {y : DkA} {D1 D2 : DkS} {t : Nat} {v u : Value} {a : CoA} {S : CoS} {i : InA} {A A2 : InS} {x : RcA} (z : ItemS) (h : Own W w (Z :: (dkPs y D1 ++ (rdPs t v u D2 ++ (coPs a S i A ++ (inPs i A ++ (rcB x A2 :: N))))))) (hR : RcIn W N x S A2) (hI : ItOk D2.I) (hB : Bk S.P) (hs : ∀ p ∈ S.P, smallOk p) (hl : S.P.length ≤ 100000) (h60 : S.L.length ≤ 60) (hy : inI z.o = true) (hyb : z.b.length ≤ maxLen) (hlen : D2.I.length ≤ 1000) :
    Calls Tryz.prog 55 #[.pointer (some ⟨t, 0, none⟩), .pointer (some ⟨x.r, 0, none⟩), .agg #[.string ⟨z.b.toArray⟩, .int .i64 z.o, .int .i64 z.a, .int .i64 z.s]] w fun e w' => e = .returned (.tuple #[.int .i64 (propN S D2.I z), .int .i64 (propE S D2.I z)]) ∧ ∃ v', Own W w' (Z :: (dkPs y D1 ++ (rdPs t v' u ⟨propI S D2.I z, D2.P⟩ ++ (coPs a S i A ++ (inPs i A ++ (rcB x A2 :: N)))))) :=
  (rdProp_any z (h.perm (pl_ref _ _ _ _)) (RcM.of hR (by simp) (fun e he => by simp [he])) hI hB hs hl h60 hy hyb hlen).mono fun e w' h9 => by
    obtain ⟨he, v', h1⟩ := h9
    exact ⟨he, v', h1.perm (pl_ref _ _ _ _).symm⟩
theorem plRAppr {W w : World} {Z : Ent} {N : List Ent} {y : DkA} {D1 D2 : DkS} {t : Nat} {v u : Value} {a : CoA} {S : CoS} {i : InA} {A A2 : InS} {x : RcA} {b : List UInt8} {n : Int} (h : Own W w (Z :: (dkPs y D1 ++ (rdPs t v u D2 ++ (coPs a S i A ++ (inPs i A ++ (rcB x A2 :: N))))))) (hR : RcIn W N x S A2) (hI : ItOk D2.I) (hBk : Bk D2.P) (hwf : PWf D2) (hB : Bk S.P) (hs : ∀ p ∈ S.P, smallOk p) (hl : S.P.length ≤ 100000) (hb : b.length ≤ maxLen) (hi : inI n = true) (hlen : D2.I.length ≤ 1000) (hlp : D2.P.length ≤ 100000) :
    Calls Tryz.prog 54 #[.pointer (some ⟨t, 0, none⟩), .pointer (some ⟨x.r, 0, none⟩), .string ⟨b.toArray⟩, .int .i64 n, .bool true] w fun e w' => e = .returned (.int .i64 (apprE S D2 b n)) ∧ ∃ v' u', Own W w' (Z :: (dkPs y D1 ++ (rdPs t v' u' (apprD S D2 b n) ++ (coPs a S i A ++ (inPs i A ++ (rcB x A2 :: N)))))) := by
  by_cases hz : pendE D2.I b n = 0
  · refine (rdEndApp_any (h.perm (pl_ref _ _ _ _)) (RcM.of hR (by simp) (fun e he => by simp [he])) hI hBk hwf hB hs hl hb hi hlen hlp hz).mono fun e w' h9 => ?_
    obtain ⟨he, v', u', h1⟩ := h9
    exact ⟨he, v', u', h1.perm (pl_ref _ _ _ _).symm⟩
  · refine (rdEndNo_any _ true (h.perm (pl_ref _ _ _ _)) hI hb hi hlen hz).mono fun e w' h9 => ?_
    obtain ⟨he, h1⟩ := h9
    rw [(appr_pend (S := S) hz).1, (appr_pend (S := S) hz).2]
    exact ⟨he, v, u, h1.perm (pl_ref _ _ _ _).symm⟩
theorem plRRefu {W w : World} {Z : Ent} {N : List Ent} {y : DkA} {D1 D2 : DkS} {t : Nat} {v u : Value} {a : CoA} {S : CoS} {i : InA} {A A2 : InS} {x : RcA} {b : List UInt8} {n : Int} (h : Own W w (Z :: (dkPs y D1 ++ (rdPs t v u D2 ++ (coPs a S i A ++ (inPs i A ++ (rcB x A2 :: N))))))) (hI : ItOk D2.I) (hb : b.length ≤ maxLen) (hi : inI n = true) (hlen : D2.I.length ≤ 1000) (c : Value) :
    Calls Tryz.prog 54 #[.pointer (some ⟨t, 0, none⟩), c, .string ⟨b.toArray⟩, .int .i64 n, .bool false] w fun e w' => e = .returned (.int .i64 (pendE D2.I b n)) ∧ ∃ v', Own W w' (Z :: (dkPs y D1 ++ (rdPs t v' u ⟨refuI D2.I b n, D2.P⟩ ++ (coPs a S i A ++ (inPs i A ++ (rcB x A2 :: N)))))) := by
  by_cases hz : pendE D2.I b n = 0
  · refine (rdEndRef_any c (h.perm (pl_ref _ _ _ _)) hb hi hlen hz).mono fun e w' h9 => ?_
    obtain ⟨he, v', h1⟩ := h9
    exact ⟨by rw [hz]; exact he, v', h1.perm (pl_ref _ _ _ _).symm⟩
  · refine (rdEndNo_any c false (h.perm (pl_ref _ _ _ _)) hI hb hi hlen hz).mono fun e w' h9 => ?_
    obtain ⟨he, h1⟩ := h9
    rw [refu_no hz]
    exact ⟨he, v, h1.perm (pl_ref _ _ _ _).symm⟩
theorem plApply {W w : World} {Z : Ent} {N : List Ent} {y : DkA} {D1 D2 : DkS} {t : Nat} {v u : Value} {a : CoA} {S : CoS} {i : InA} {A A2 : InS} {x : RcA} {ev : Value} (z : EntS) (h : Own W w (Z :: (dkPs y D1 ++ (rdPs t v u D2 ++ (coPs a S i A ++ (inPs i A ++ (rcB x A2 :: N))))))) (hx : ∀ N, EntW W N z ev) (hA : InOk A) (hok : CoOk S) (hlen : S.P.length ≤ 99000) (hL : LaidE W) :
    Calls Tryz.prog 27 #[.pointer (some ⟨a.c, 0, none⟩), .agg #[.int .i64 (z).k, .int .i64 (z).id, .string ⟨(z).ref.toArray⟩, .string ⟨(z).sku.toArray⟩, .int .i64 (z).qty, .int .i64 (z).amt, .int .i64 (z).o, .int .i64 (z).d, .int .i64 (z).c, .int .i64 (z).p, .int .i64 (z).q, ev]] w fun e w' => e = .returned (.int .i64 (applyE S A z)) ∧ ∃ u' v' i', Own W w' (Z :: (dkPs y D1 ++ (rdPs t v u D2 ++ (coPs { a with u := u', v := v' } (applyS S A z) i' (applyI A z) ++ (inPs i' (applyI A z) ++ (rcB x A2 :: N)))))) := by
  refine (coApply_any z (h.perm (pl_core _ _ _ _ _ _)) (hx _) hA hok hlen hL).mono fun e w' h9 => ?_
  obtain ⟨he, u', v', i', -, h1⟩ := h9
  exact ⟨he, u', v', i', h1.perm (pl_core _ _ _ _ _ _).symm⟩
theorem plRApply {W w : World} {Z : Ent} {N : List Ent} {y : DkA} {D1 D2 : DkS} {t : Nat} {v u : Value} {a : CoA} {S : CoS} {i : InA} {A A2 : InS} {x : RcA} {ev : Value} {S2 : CoS} (z : EntS) (h : Own W w (Z :: (dkPs y D1 ++ (rdPs t v u D2 ++ (coPs a S i A ++ (inPs i A ++ (rcB x A2 :: N))))))) (hR : RcIn W N x S2 A2) (hx : EntF W N z ev) (hI : CoInv S2 A2) (hids : idsOk S2.L) (hlen : S2.P.length ≤ 99000) :
    Calls Tryz.prog 28 #[.pointer (some ⟨x.r, 0, none⟩), .agg #[.int .i64 (z).k, .int .i64 (z).id, .string ⟨(z).ref.toArray⟩, .string ⟨(z).sku.toArray⟩, .int .i64 (z).qty, .int .i64 (z).amt, .int .i64 (z).o, .int .i64 (z).d, .int .i64 (z).c, .int .i64 (z).p, .int .i64 (z).q, ev]] w fun e w' => e = .returned (.int .i64 (applyE S2 A2 z)) ∧ ∃ (x' : RcA) (N' : List Ent), x'.r = x.r ∧ Own W w' (Z :: (dkPs y D1 ++ (rdPs t v u D2 ++ (coPs a S i A ++ (inPs i A ++ (rcB x' (applyI A2 z) :: (N' ++ N))))))) ∧ RcIn W (N' ++ N) x' (applyS S2 A2 z) (applyI A2 z) := by
  refine (rcApply_any z (h.perm (pl_rc _ _ _ _ _ _ _)) hR (fun e he => by simp [he]) hx hI hids hlen).mono fun e w' h9 => ?_
  obtain ⟨he, x', N', hr, h1, h2⟩ := h9
  exact ⟨he, x', N', hr, h1.perm (pl_rc2 _ _ _ _ _ _ _ _), h2⟩
theorem pl_dk {W w : World} {Z : Ent} {N : List Ent} {y : DkA} {D1 D2 : DkS} {t : Nat} {v u : Value} {a : CoA} {S : CoS} {i : InA} {A A2 : InS} {x : RcA} (h : Own W w (Z :: (dkPs y D1 ++ (rdPs t v u D2 ++ (coPs a S i A ++ (inPs i A ++ (rcB x A2 :: N))))))) : DkAt w y D1 := Own.dkAt h (fun e he => by simp [he])
theorem pl_rd {W w : World} {Z : Ent} {N : List Ent} {y : DkA} {D1 D2 : DkS} {t : Nat} {v u : Value} {a : CoA} {S : CoS} {i : InA} {A A2 : InS} {x : RcA} (h : Own W w (Z :: (dkPs y D1 ++ (rdPs t v u D2 ++ (coPs a S i A ++ (inPs i A ++ (rcB x A2 :: N))))))) : RdAt w t v u D2 := Own.rdAt h (fun e he => by simp [he])
theorem pl_co {W w : World} {Z : Ent} {N : List Ent} {y : DkA} {D1 D2 : DkS} {t : Nat} {v u : Value} {a : CoA} {S : CoS} {i : InA} {A A2 : InS} {x : RcA} (h : Own W w (Z :: (dkPs y D1 ++ (rdPs t v u D2 ++ (coPs a S i A ++ (inPs i A ++ (rcB x A2 :: N))))))) : CoAt w a S i A := Own.coAt h (by simp [coPs]) (by simp [coPs]) (by simp [coPs])
theorem pl_rcAt {W w : World} {Z : Ent} {N : List Ent} {y : DkA} {D1 D2 : DkS} {t : Nat} {v u : Value} {a : CoA} {S : CoS} {i : InA} {A A2 : InS} {x : RcA} (h : Own W w (Z :: (dkPs y D1 ++ (rdPs t v u D2 ++ (coPs a S i A ++ (inPs i A ++ (rcB x A2 :: N))))))) (hR : RcIn W N x S A2) : RcAt w x S A2 := hR.full h (fun e he => by simp [he]) (by simp)
end Go.Proofs.YtibabfedpdoofaaGreatDoor
namespace Go.Proofs.YtibabfedpdoofaaGreatDoor
open Go.RowKit Go.Own Go.Maps

structure PlOk (S : CoS) (A : InS) (D : DkS) (k : Nat) : Prop where
  inv : CoInv S A
  ids : idsOk S.L
  sp : S.P.length ≤ 2400 + 60 * k
  dk : DkOk D
  pw : PWf D
  dp : D.P.length ≤ k
theorem PlOk.apply {S : CoS} {A : InS} {D : DkS} {k : Nat} (h : PlOk S A D k) (hk : k ≤ 100) (x : EntS) : PlOk (applyS S A x) (applyI A x) D (k + 1) := by
  have h1 := h.sp
  have h2 := (applyS_ok (A := A) h.inv.ok x).2
  have h3 := h.dp
  exact ⟨(coInv_step h.inv (by omega) x).2, ids_step h.ids x, by omega, h.dk, h.pw, by omega⟩
theorem PlOk.prop {S : CoS} {A : InS} {D : DkS} {k : Nat} (h : PlOk S A D k) {x : ItemS} (hx : inI x.a = true) : PlOk S A ⟨propI S D.I x, D.P⟩ (k + 1) := by
  have h1 := h.sp
  have h3 := h.dp
  exact ⟨h.inv, h.ids, by omega, propI_ok h.dk h.inv.ok.len hx, h.pw, by show D.P.length ≤ k + 1; omega⟩
theorem PlOk.refu {S : CoS} {A : InS} {D : DkS} {k : Nat} (h : PlOk S A D k) (b : List UInt8) (n : Int) : PlOk S A ⟨refuI D.I b n, D.P⟩ (k + 1) := by
  have h1 := h.sp
  have h3 := h.dp
  exact ⟨h.inv, h.ids, by omega, refuI_ok h.dk, h.pw, by show D.P.length ≤ k + 1; omega⟩
theorem PlOk.appr {S : CoS} {A : InS} {D : DkS} {k : Nat} (h : PlOk S A D k) (b : List UInt8) (n : Int) : PlOk S A (apprD S D b n) (k + 1) := by
  have h1 := h.sp
  have h3 := h.dp
  have h4 := apprD_len S D b n
  refine ⟨h.inv, h.ids, by omega, ?_, pwf_appr h.dk h.inv.ok.bk h.pw, by omega⟩
  by_cases hz : apprE S D b n = 0
  · obtain ⟨_, _, _, _, _, _, _, h9, _⟩ := appr_zero h.dk h.inv.ok.bk hz
    exact h9
  · rw [apprD_no hz]; exact h.dk
theorem pl_new (I P B : Ent) (K L : List Ent) : (I :: P :: B :: (K ++ L)).Perm (K ++ (B :: I :: P :: L)) := by
  have h1 : ([I, P, B] ++ (K ++ L)).Perm (K ++ ([I, P, B] ++ L)) := List.perm_append_comm_assoc _ _ _
  refine h1.trans (List.Perm.append_left K ?_)
  exact ((List.Perm.swap B P L).cons I).trans (List.Perm.swap B I (P :: L))

set_option maxHeartbeats 64000000 in
set_option maxRecDepth 100000 in
theorem deskPlay_any {W : World} {v u : Value} {es : List EntI} {xs : List ActI} (h : IsEnts W v es) (ha : IsActs W u xs) (hL : LaidE W) : Calls Tryz.prog 9 #[v, u] W fun e w' => e = .returned (.bool true) ∧ Below W.heap.size W w' := by
  have HO := Own.start W
  have AD := fun (w : World) (hb : Below W.heap.size W w) => signed_any w (hL.below hb)
  have GR := fun (w : World) (hb : Below W.heap.size W w) => great24_any 40 (h.below hb)
  have GA := fun (w : World) (hb : Below W.heap.size W w) => great32_any 40 (ha.below hb)
  have HT := Lib.hid ha.l
  have HR := Lib.hid ha.r
  obtain ⟨tp, tc, rfl, htx⟩ := ha.l.slice
  rw [List.length_map] at HT GA ⊢
  by_cases hg : greatL es 40 = true
  · rw [hg] at GR
    clear h ha htx HT HR GA
    go_enter Tryz.func9, Tryz.ntmps9
    go_wp2_with (first | (go_at_call 11; go_must ((with_reducible refine (GR _ HO.grown).mono ?_); rintro e w ⟨rfl, hb⟩; replace HO := HO.call hb; clear hb)) | (go_at_call 39; go_must ((with_reducible refine (AD _ HO.grown).mono ?_); rintro e w ⟨rfl, hb⟩; replace HO := HO.call hb; clear hb)))
    go_ret
    exact ⟨rfl, HO.grown⟩
  have hl40 : es.length ≤ 40 := by
    simp only [greatL, Bool.or_eq_true, decide_eq_true_eq, not_or] at hg
    omega
  rw [Bool.not_eq_true] at hg
  rw [hg] at GR
  by_cases hga : greatA xs 40 = true
  · rw [hga] at GA
    clear h ha htx HT HR hg hga
    go_enter Tryz.func9, Tryz.ntmps9
    go_wp2_with (first | (go_at_call 11; go_must ((with_reducible refine (GR _ HO.grown).mono ?_); rintro e w ⟨rfl, hb⟩; replace HO := HO.call hb; clear hb)) | (go_at_call 45; go_must ((with_reducible refine (GA _ HO.grown).mono ?_); rintro e w ⟨rfl, hb⟩; replace HO := HO.call hb; clear hb)) | (go_at_call 39; go_must ((with_reducible refine (AD _ HO.grown).mono ?_); rintro e w ⟨rfl, hb⟩; replace HO := HO.call hb; clear hb)))
    go_ret
    exact ⟨rfl, HO.grown⟩
  have hlx : xs.length ≤ 40 := by
    simp only [greatA, Bool.or_eq_true, decide_eq_true_eq, not_or] at hga
    omega
  rw [Bool.not_eq_true] at hga
  rw [hga] at GA
  have CR := Lib.hid (fun (w : World) (hO : Own W w []) => cored_any (G := []) hO (fun e he => he) (h.into []) hL (by omega))
  have inv := coreOf_inv (es.map (·.x)) (by simp; omega) (es.map (·.x)).length (by simp)
  have ids := coreOf_ids (es.map (·.x)) (es.map (·.x)).length (by simp)
  obtain ⟨o1, o2, oi⟩ := coreOf_ok (es.map (·.x)) (es.map (·.x)).length (by simp)
  rw [List.take_length] at o1 o2 oi inv ids
  rw [List.length_map] at o2
  clear h hg ha htx hga o1 oi
  generalize (coreOf (es.map (·.x))).1 = S0 at *
  generalize (coreOf (es.map (·.x))).2 = A0 at *
  go_enter Tryz.func9, Tryz.ntmps9
  go_upto_region 4 with (first | (go_at_call 11; go_must ((with_reducible refine (GR _ HO.grown).mono ?_); rintro e w ⟨rfl, hb⟩; replace HO := HO.call hb; clear hb)) | (go_at_call 45; go_must ((with_reducible refine (GA _ HO.grown).mono ?_); rintro e w ⟨rfl, hb⟩; replace HO := HO.call hb; clear hb)) | (go_at_call 14; go_must ((with_reducible refine (CR.out _ HO).mono ?_); clear CR HO; rintro e w ⟨a, i, x, N0, rfl, HO, hRc⟩)))
  rw [List.append_nil] at HO hRc
  go_wp2_with (first | (go_at_call 40; go_must ((with_reducible refine (dkNew_any _).mono ?_); rintro e w ⟨y, rfl, HO1⟩; replace HO := HO.lift HO1; clear HO1)) | (((with_reducible apply wpList_boxAgg _ HO rfl); exact rfl; exact rfl; exact rfl; clear HO; intro t w HO; (simp only [Act.put, zA, zB, zC]))))
  have HO1 : Own W w (dkPs y ⟨[], []⟩ ++ (rdPs t (.slice none 0 0) (.slice none 0 0) ⟨[], []⟩ ++ (coPs a S0 i A0 ++ (inPs i A0 ++ (rcB x A0 :: N0))))) := by
    have h9 := (HO.nil 187 5).nil 111 4
    exact h9.perm (pl_new _ _ _ _ _)
  clear HO
  have HO := HO1
  have hF0 : PlOk S0 A0 ⟨[], []⟩ 0 := ⟨inv, ids, by omega, dkOk_new, (fun p hp => by cases hp), by simp⟩
  clear HO1 inv ids o2
  go_loopw [10] (fun iv wr => ∃ (j : Nat) (y' : DkA) (v u : Value) (a' : CoA) (S : CoS) (i' : InA) (A : InS) (x' : RcA) (N : List Ent) (D : DkS), j ≤ xs.length ∧ iv = .int .i64 (j : Int) ∧ y'.t = y.t ∧ a'.c = a.c ∧ x'.r = x.r ∧ PlOk S A D j ∧ RcIn W N x' S A ∧
    Own W wr (dkPs y' D ++ (rdPs t v u D ++ (coPs a' S i' A ++ (inPs i' A ++ (rcB x' A :: N)))))) (fun iv _ => xs.length - (intOf iv).toNat)
  case atStart => exact ⟨0, y, .slice none 0 0, .slice none 0 0, a, S0, i, A0, x, N0, ⟨[], []⟩, by omega, rfl, rfl, rfl, rfl, hF0, hRc, HO⟩
  case round =>
    clear HO hF0 hRc
    obtain ⟨j, y', v, u, a', S, i', A, x', N, D, hj, rfl, hyt, hac, hxr, hF, hRc, HO⟩ := hrel
    by_cases hjl : j < xs.length
    rotate_left
    · obtain rfl : j = xs.length := by omega
      have hjI : ¬ ((xs.length : Int) < (xs.length : Int)) := by omega
      clear hF hRc
      go_wp2_with ((go_at_call 39; go_must ((with_reducible refine (AD _ HO.grown).mono ?_); rintro e w ⟨rfl, hb⟩; replace HO := HO.call hb; clear hb)))
      go_ret
      exact ⟨rfl, HO.grown⟩
    have hjI : (j : Int) < (xs.length : Int) := by omega
    obtain ⟨q, rfl, hst⟩ := oldAt HT.out rfl hjl
    have hok := HR.out _ (List.getElem_mem hjl)
    generalize xs[j] = z at *
    obtain ⟨zk, zb, zn, ⟨ib, io, ia, is⟩, ⟨ex, ev⟩⟩ := z
    unfold actC at hst
    simp only at hst
    replace hst := Lib.hid hst
    obtain ⟨k1, k2, k3, k4, k5, k6, k7, k8, k9, k10, k11⟩ := hok
    simp only at k1 k2 k3 k4 k5 k6 k7 k8 k9 k10 k11
    obtain ⟨ep, ec, hev, -⟩ := k8.slice
    obtain ⟨en, hen⟩ : ∃ n, n = ex.rs.length := ⟨_, rfl⟩
    rw [← hen] at hev
    subst hev
    replace hen := Lib.hid hen
    obtain ⟨yt, yv, yk, yu, ypm, ybm⟩ := y'
    obtain ⟨ac, av, ak, au, apm, abm⟩ := a'
    obtain ⟨xr, xv, xu, x0, x1, x2⟩ := x'
    simp only at hyt hac hxr
    subst hyt hac hxr
    have hIl := hF.dk.len
    have hSl := hF.sp
    have hDl := hF.dp
    have HF := Lib.hid hF
    have HRC := Lib.hid hRc
    clear hF hRc
    go_upto_region 16 with (first | (((with_reducible apply wpList_loadOne HO); exact rfl; exact rfl; (repeat (with_reducible (exact At.head _))); exact rfl; infer_instance; exact rfl; (simp only [Act.put, zA, zB, zC]))) | ((with_reducible apply wpList_storeAll HO); exact rfl; exact rfl; exact rfl; (repeat (with_reducible (exact At.head _))); infer_instance; exact rfl; exact rfl; exact rfl; exact rfl; clear HO; intro w HO; (simp only [Act.put])) | (((with_reducible apply wpList_allocAgg _ HO rfl); exact rfl; infer_instance; exact rfl; clear HO; intro b11 w HO; (simp only [Act.put, zA, zB, zC]))) | ((with_reducible apply wpList_loadAt HO); exact rfl; exact rfl; exact (fun w' h1 => hst.out w' h1.grown); infer_instance; exact rfl; exact rfl; (simp only [Act.put, zA, zB, zC])))
    obtain ⟨m, hm9⟩ : ∃ m : Int, m = (zk : Int) % 8 := ⟨_, rfl⟩
    rw [← hm9]
    have hmr : m = 7 ∨ m = 6 ∨ (m = 4 ∨ m = 5) ∨ (m ≠ 4 ∧ m ≠ 5 ∧ m ≠ 6 ∧ m ≠ 7) := by omega
    replace hm9 := Lib.hid hm9
    clear hst
    rcases hmr with rfl | rfl | hm45 | ⟨n4, n5, n6, n7⟩
    · have CP := Lib.hid (fun (w : World) (h : Own W w ((box b11 (.cells #[.int .u8 (zk : Int), .string ⟨zb.toArray⟩, .int .i64 zn, .string ⟨ib.toArray⟩, .int .i64 io, .int .i64 ia, .int .i64 is, .int .i64 ex.k, .int .i64 ex.id, .string ⟨ex.ref.toArray⟩, .string ⟨ex.sku.toArray⟩, .int .i64 ex.qty, .int .i64 ex.amt, .int .i64 ex.o, .int .i64 ex.d, .int .i64 ex.c, .int .i64 ex.p, .int .i64 ex.q, .slice ep en ec] 86)) :: (dkPs ⟨y.t, yv, yk, yu, ypm, ybm⟩ D ++ (rdPs t v u D ++ (coPs ⟨a.c, av, ak, au, apm, abm⟩ S i' A ++ (inPs i' A ++ (rcB ⟨x.r, xv, xu, x0, x1, x2⟩ A :: N))))))) => plApply ex h (fun N => ⟨.old k8 N, k9, k10, k11⟩) HF.out.inv.inok HF.out.inv.ok (by omega) hL)
      have RP := Lib.hid (fun (w : World) (a9 : CoA) (S9 : CoS) (i9 : InA) (A9 : InS) (h : Own W w ((box b11 (.cells #[.int .u8 (zk : Int), .string ⟨zb.toArray⟩, .int .i64 zn, .string ⟨ib.toArray⟩, .int .i64 io, .int .i64 ia, .int .i64 is, .int .i64 ex.k, .int .i64 ex.id, .string ⟨ex.ref.toArray⟩, .string ⟨ex.sku.toArray⟩, .int .i64 ex.qty, .int .i64 ex.amt, .int .i64 ex.o, .int .i64 ex.d, .int .i64 ex.c, .int .i64 ex.p, .int .i64 ex.q, .slice ep en ec] 86)) :: (dkPs ⟨y.t, yv, yk, yu, ypm, ybm⟩ D ++ (rdPs t v u D ++ (coPs a9 S9 i9 A9 ++ (inPs i9 A9 ++ (rcB ⟨x.r, xv, xu, x0, x1, x2⟩ A :: N))))))) => plRApply (S := S9) (S2 := S) ex h HRC.out ⟨.old k8 N, k9, k10, k11⟩ HF.out.inv HF.out.ids (by omega))
      have HF9 := Lib.hid (HF.out.apply (by omega) ex)
      simp only at CP RP
      generalize applyE S A ex = e9 at *
      generalize applyS S A ex = S8 at *
      generalize applyI A ex = A8 at *
      go_upto_region 22 with (fail)
      refine region_sched2 ([box b11 (.cells #[.int .u8 (zk : Int), .string ⟨zb.toArray⟩, .int .i64 zn, .string ⟨ib.toArray⟩, .int .i64 io, .int .i64 ia, .int .i64 is, .int .i64 ex.k, .int .i64 ex.id, .string ⟨ex.ref.toArray⟩, .string ⟨ex.sku.toArray⟩, .int .i64 ex.qty, .int .i64 ex.amt, .int .i64 ex.o, .int .i64 ex.d, .int .i64 ex.c, .int .i64 ex.p, .int .i64 ex.q, .slice ep en ec] 86)]) [(0, true), (1, true), (2, true), (4, true), (5, true), (6, true), (3, false), (7, false), (8, true), (9, true)] HO (by with_reducible (repeat (first | exact List.nil_sublist _ | apply List.Sublist.cons_cons))) (by kernel_rfl) (by kernel_rfl) ?_
      clear HO
      intro w HO
      repeat (first | ((with_reducible apply wpSched_loadPart); exact rfl; exact rfl; (exact rfl); (repeat (with_reducible (exact At.head _))); infer_instance; exact (Nat.le_of_ble_eq_true rfl); (simp only [List.drop_succ_cons, List.drop_zero, List.take_succ_cons, List.take_zero]; rfl); exact rfl; (simp only [Act.put, zA, zB, zC])) | ((with_reducible apply wpSched_pure); exact rfl; exact rfl; (intro w'; go_simp; try with_reducible rfl); (simp only [Act.put, zA, zB, zC])))
      ((with_reducible apply wpSched_loud); exact rfl; go_wp2_with ((go_at_call 27; go_must ((have h9 := CP.out _ HO); (with_reducible refine h9.mono ?_); clear h9 HO; rintro e w ⟨rfl, u8, v8, i8, HO⟩))))
      refine thenQ_keep (HO.held (by with_reducible (repeat (first | exact List.nil_sublist _ | apply List.Sublist.cons_cons)))) ?_
      ((with_reducible apply wpSched_loud); exact rfl; go_wp2_with ((go_at_call 28; go_must ((have h9 := RP.out _ _ _ _ _ HO); (with_reducible refine h9.mono ?_); clear h9 HO; rintro e w ⟨rfl, x9, N9, hr9, HO, hR8⟩))))
      refine thenQ_free (by kernel_rfl) ?_
      repeat ((with_reducible apply wpSched_pure); exact rfl; exact rfl; (intro w'; go_simp; try with_reducible rfl); (simp only [Act.put, zA, zB, zC]))
      refine wpSched_end ?_
      obtain ⟨xr9, xv9, xu9, x09, x19, x29⟩ := x9
      simp only at hr9
      subst hr9
      clear CP RP
      have hF := HF9
      have hR9 := Lib.hid (hR8)
      have OPd := Lib.hid (fun (w : World) (h : Own W w ((box b11 (.cells #[.int .u8 (zk : Int), .string ⟨zb.toArray⟩, .int .i64 zn, .string ⟨ib.toArray⟩, .int .i64 io, .int .i64 ia, .int .i64 is, .int .i64 ex.k, .int .i64 ex.id, .string ⟨ex.ref.toArray⟩, .string ⟨ex.sku.toArray⟩, .int .i64 ex.qty, .int .i64 ex.amt, .int .i64 ex.o, .int .i64 ex.d, .int .i64 ex.c, .int .i64 ex.p, .int .i64 ex.q, .slice ep en ec] 86)) :: (dkPs ⟨y.t, yv, yk, yu, ypm, ybm⟩ D ++ (rdPs t v u D ++ (coPs ⟨a.c, v8, ak, u8, apm, abm⟩ S8 i8 A8 ++ (inPs i8 A8 ++ (rcB ⟨x.r, xv9, xu9, x09, x19, x29⟩ A8 :: (N9 ++ N)))))))) => dkOpen_any (o := io) (pl_dk h) (pl_co h) hF.out.dk.itOk hF.out.inv.ok.bk k5)
      have OPr := Lib.hid (fun (w : World) (h : Own W w ((box b11 (.cells #[.int .u8 (zk : Int), .string ⟨zb.toArray⟩, .int .i64 zn, .string ⟨ib.toArray⟩, .int .i64 io, .int .i64 ia, .int .i64 is, .int .i64 ex.k, .int .i64 ex.id, .string ⟨ex.ref.toArray⟩, .string ⟨ex.sku.toArray⟩, .int .i64 ex.qty, .int .i64 ex.amt, .int .i64 ex.o, .int .i64 ex.d, .int .i64 ex.c, .int .i64 ex.p, .int .i64 ex.q, .slice ep en ec] 86)) :: (dkPs ⟨y.t, yv, yk, yu, ypm, ybm⟩ D ++ (rdPs t v u D ++ (coPs ⟨a.c, v8, ak, u8, apm, abm⟩ S8 i8 A8 ++ (inPs i8 A8 ++ (rcB ⟨x.r, xv9, xu9, x09, x19, x29⟩ A8 :: (N9 ++ N)))))))) => rdOpen_any (pl_rd h) (pl_rcAt h hR9.out) hF.out.dk.itOk hF.out.inv.ok.bk hF.out.inv.small (by have := hF.out.sp; omega) io)
      have AL := Lib.hid (fun (w : World) (h : Own W w ((box b11 (.cells #[.int .u8 (zk : Int), .string ⟨zb.toArray⟩, .int .i64 zn, .string ⟨ib.toArray⟩, .int .i64 io, .int .i64 ia, .int .i64 is, .int .i64 ex.k, .int .i64 ex.id, .string ⟨ex.ref.toArray⟩, .string ⟨ex.sku.toArray⟩, .int .i64 ex.qty, .int .i64 ex.amt, .int .i64 ex.o, .int .i64 ex.d, .int .i64 ex.c, .int .i64 ex.p, .int .i64 ex.q, .slice ep en ec] 86)) :: (dkPs ⟨y.t, yv, yk, yu, ypm, ybm⟩ D ++ (rdPs t v u D ++ (coPs ⟨a.c, v8, ak, u8, apm, abm⟩ S8 i8 A8 ++ (inPs i8 A8 ++ (rcB ⟨x.r, xv9, xu9, x09, x19, x29⟩ A8 :: (N9 ++ N)))))))) (n : Int) (k : Bool) => alike_any (pl_dk h) (pl_rd h) hF.out.dk.itOk (by have := hF.out.dk.len; omega) (by have := hF.out.dp; omega) n k)
      simp only at OPd OPr AL
      generalize openD S8 (D : DkS).I io = g9 at *
      obtain ⟨g1, g2⟩ := g9
      simp only at OPd OPr
      go_wp2_with (first | (((with_reducible apply wpList_loadOne HO); exact rfl; exact rfl; (repeat (with_reducible (exact At.head _))); exact rfl; infer_instance; exact rfl; (simp only [Act.put, zA, zB, zC]))) | (go_at_call 41; go_must ((with_reducible refine (OPd.out _ HO).mono ?_); rintro e w ⟨rfl, hb⟩; replace HO := HO.call hb; clear hb)) | (go_at_call 56; go_must ((with_reducible refine (OPr.out _ HO).mono ?_); rintro e w ⟨rfl, hb⟩; replace HO := HO.call hb; clear hb)) | (go_at_call 57; go_must ((with_reducible refine (AL.out _ HO _ _).mono ?_); rintro e w ⟨rfl, hb⟩; replace HO := HO.call hb; clear hb)))
      replace HO := HO.tail
      go_roundw
      case rel => exact ⟨j + 1, ⟨y.t, yv, yk, yu, ypm, ybm⟩, v, u, ⟨a.c, v8, ak, u8, apm, abm⟩, S8, i8, A8, ⟨x.r, xv9, xu9, x09, x19, x29⟩, (N9 ++ N), D, by omega, by go_num, rfl, rfl, rfl, hF.out, hR9.out, HO⟩
      case measure => simp [intOf] <;> omega
    · have RF := Lib.hid (fun (w : World) (h : Own W w ((box b11 (.cells #[.int .u8 (zk : Int), .string ⟨zb.toArray⟩, .int .i64 zn, .string ⟨ib.toArray⟩, .int .i64 io, .int .i64 ia, .int .i64 is, .int .i64 ex.k, .int .i64 ex.id, .string ⟨ex.ref.toArray⟩, .string ⟨ex.sku.toArray⟩, .int .i64 ex.qty, .int .i64 ex.amt, .int .i64 ex.o, .int .i64 ex.d, .int .i64 ex.c, .int .i64 ex.p, .int .i64 ex.q, .slice ep en ec] 86)) :: (dkPs ⟨y.t, yv, yk, yu, ypm, ybm⟩ D ++ (rdPs t v u D ++ (coPs ⟨a.c, av, ak, au, apm, abm⟩ S i' A ++ (inPs i' A ++ (rcB ⟨x.r, xv, xu, x0, x1, x2⟩ A :: N))))))) => plRefuse (b := zb) (n := zn) h k2 k3)
      have RE := Lib.hid (fun (w : World) (D1 : DkS) (h : Own W w ((box b11 (.cells #[.int .u8 (zk : Int), .string ⟨zb.toArray⟩, .int .i64 zn, .string ⟨ib.toArray⟩, .int .i64 io, .int .i64 ia, .int .i64 is, .int .i64 ex.k, .int .i64 ex.id, .string ⟨ex.ref.toArray⟩, .string ⟨ex.sku.toArray⟩, .int .i64 ex.qty, .int .i64 ex.amt, .int .i64 ex.o, .int .i64 ex.d, .int .i64 ex.c, .int .i64 ex.p, .int .i64 ex.q, .slice ep en ec] 86)) :: (dkPs ⟨y.t, yv, yk, yu, ypm, ybm⟩ D1 ++ (rdPs t v u D ++ (coPs ⟨a.c, av, ak, au, apm, abm⟩ S i' A ++ (inPs i' A ++ (rcB ⟨x.r, xv, xu, x0, x1, x2⟩ A :: N))))))) => plRRefu (b := zb) (n := zn) h HF.out.dk.itOk k2 k3 (by omega) (.pointer (some ⟨x.r, 0, none⟩)))
      have HF9 := Lib.hid (HF.out.refu zb zn)
      simp only at RF RE
      generalize pendE D.I zb zn = e9 at *
      generalize refuI D.I zb zn = I9 at *
      go_upto_region 20 with (fail)
      refine region_sched2 ([box b11 (.cells #[.int .u8 (zk : Int), .string ⟨zb.toArray⟩, .int .i64 zn, .string ⟨ib.toArray⟩, .int .i64 io, .int .i64 ia, .int .i64 is, .int .i64 ex.k, .int .i64 ex.id, .string ⟨ex.ref.toArray⟩, .string ⟨ex.sku.toArray⟩, .int .i64 ex.qty, .int .i64 ex.amt, .int .i64 ex.o, .int .i64 ex.d, .int .i64 ex.c, .int .i64 ex.p, .int .i64 ex.q, .slice ep en ec] 86)]) [(0, true), (1, true), (2, true), (3, true), (4, true), (6, true), (7, true), (8, true), (9, true), (10, true), (11, true), (5, false), (12, false), (13, true), (14, true)] HO (by with_reducible (repeat (first | exact List.nil_sublist _ | apply List.Sublist.cons_cons))) (by kernel_rfl) (by kernel_rfl) ?_
      clear HO
      intro w HO
      repeat (first | ((with_reducible apply wpSched_loadOne); exact rfl; exact rfl; exact rfl; (repeat (with_reducible (exact At.head _))); exact rfl; infer_instance; exact rfl; (simp only [Act.put, zA, zB, zC])) | ((with_reducible apply wpSched_pure); exact rfl; exact rfl; (intro w'; go_simp; try with_reducible rfl); (simp only [Act.put, zA, zB, zC])))
      ((with_reducible apply wpSched_loud); exact rfl; go_wp2_with ((go_at_call 44; go_must ((have h9 := RF.out _ HO); (with_reducible refine h9.mono ?_); clear h9 HO; rintro e w ⟨rfl, HO⟩))))
      refine thenQ_keep (HO.held (by with_reducible (repeat (first | exact List.nil_sublist _ | apply List.Sublist.cons_cons)))) ?_
      ((with_reducible apply wpSched_loud); exact rfl; go_wp2_with ((go_at_call 54; go_must ((have h9 := RE.out _ _ HO); (with_reducible refine h9.mono ?_); clear h9 HO; rintro e w ⟨rfl, v9, HO⟩))))
      refine thenQ_free (by kernel_rfl) ?_
      repeat ((with_reducible apply wpSched_pure); exact rfl; exact rfl; (intro w'; go_simp; try with_reducible rfl); (simp only [Act.put, zA, zB, zC]))
      refine wpSched_end ?_
      clear RF RE
      have hF := HF9
      have hR9 := Lib.hid (HRC.out)
      have OPd := Lib.hid (fun (w : World) (h : Own W w ((box b11 (.cells #[.int .u8 (zk : Int), .string ⟨zb.toArray⟩, .int .i64 zn, .string ⟨ib.toArray⟩, .int .i64 io, .int .i64 ia, .int .i64 is, .int .i64 ex.k, .int .i64 ex.id, .string ⟨ex.ref.toArray⟩, .string ⟨ex.sku.toArray⟩, .int .i64 ex.qty, .int .i64 ex.amt, .int .i64 ex.o, .int .i64 ex.d, .int .i64 ex.c, .int .i64 ex.p, .int .i64 ex.q, .slice ep en ec] 86)) :: (dkPs ⟨y.t, yv, yk, yu, ypm, ybm⟩ ⟨I9, D.P⟩ ++ (rdPs t v9 u ⟨I9, D.P⟩ ++ (coPs ⟨a.c, av, ak, au, apm, abm⟩ S i' A ++ (inPs i' A ++ (rcB ⟨x.r, xv, xu, x0, x1, x2⟩ A :: N))))))) => dkOpen_any (o := io) (pl_dk h) (pl_co h) hF.out.dk.itOk hF.out.inv.ok.bk k5)
      have OPr := Lib.hid (fun (w : World) (h : Own W w ((box b11 (.cells #[.int .u8 (zk : Int), .string ⟨zb.toArray⟩, .int .i64 zn, .string ⟨ib.toArray⟩, .int .i64 io, .int .i64 ia, .int .i64 is, .int .i64 ex.k, .int .i64 ex.id, .string ⟨ex.ref.toArray⟩, .string ⟨ex.sku.toArray⟩, .int .i64 ex.qty, .int .i64 ex.amt, .int .i64 ex.o, .int .i64 ex.d, .int .i64 ex.c, .int .i64 ex.p, .int .i64 ex.q, .slice ep en ec] 86)) :: (dkPs ⟨y.t, yv, yk, yu, ypm, ybm⟩ ⟨I9, D.P⟩ ++ (rdPs t v9 u ⟨I9, D.P⟩ ++ (coPs ⟨a.c, av, ak, au, apm, abm⟩ S i' A ++ (inPs i' A ++ (rcB ⟨x.r, xv, xu, x0, x1, x2⟩ A :: N))))))) => rdOpen_any (pl_rd h) (pl_rcAt h hR9.out) hF.out.dk.itOk hF.out.inv.ok.bk hF.out.inv.small (by have := hF.out.sp; omega) io)
      have AL := Lib.hid (fun (w : World) (h : Own W w ((box b11 (.cells #[.int .u8 (zk : Int), .string ⟨zb.toArray⟩, .int .i64 zn, .string ⟨ib.toArray⟩, .int .i64 io, .int .i64 ia, .int .i64 is, .int .i64 ex.k, .int .i64 ex.id, .string ⟨ex.ref.toArray⟩, .string ⟨ex.sku.toArray⟩, .int .i64 ex.qty, .int .i64 ex.amt, .int .i64 ex.o, .int .i64 ex.d, .int .i64 ex.c, .int .i64 ex.p, .int .i64 ex.q, .slice ep en ec] 86)) :: (dkPs ⟨y.t, yv, yk, yu, ypm, ybm⟩ ⟨I9, D.P⟩ ++ (rdPs t v9 u ⟨I9, D.P⟩ ++ (coPs ⟨a.c, av, ak, au, apm, abm⟩ S i' A ++ (inPs i' A ++ (rcB ⟨x.r, xv, xu, x0, x1, x2⟩ A :: N))))))) (n : Int) (k : Bool) => alike_any (pl_dk h) (pl_rd h) hF.out.dk.itOk (by have := hF.out.dk.len; omega) (by have := hF.out.dp; omega) n k)
      simp only at OPd OPr AL
      generalize openD S (⟨I9, D.P⟩ : DkS).I io = g9 at *
      obtain ⟨g1, g2⟩ := g9
      simp only at OPd OPr
      go_wp2_with (first | (((with_reducible apply wpList_loadOne HO); exact rfl; exact rfl; (repeat (with_reducible (exact At.head _))); exact rfl; infer_instance; exact rfl; (simp only [Act.put, zA, zB, zC]))) | (go_at_call 41; go_must ((with_reducible refine (OPd.out _ HO).mono ?_); rintro e w ⟨rfl, hb⟩; replace HO := HO.call hb; clear hb)) | (go_at_call 56; go_must ((with_reducible refine (OPr.out _ HO).mono ?_); rintro e w ⟨rfl, hb⟩; replace HO := HO.call hb; clear hb)) | (go_at_call 57; go_must ((with_reducible refine (AL.out _ HO _ _).mono ?_); rintro e w ⟨rfl, hb⟩; replace HO := HO.call hb; clear hb)))
      replace HO := HO.tail
      go_roundw
      case rel => exact ⟨j + 1, ⟨y.t, yv, yk, yu, ypm, ybm⟩, v9, u, ⟨a.c, av, ak, au, apm, abm⟩, S, i', A, ⟨x.r, xv, xu, x0, x1, x2⟩, N, ⟨I9, D.P⟩, by omega, by go_num, rfl, rfl, rfl, hF.out, hR9.out, HO⟩
      case measure => simp [intOf] <;> omega
    · have AP := Lib.hid (fun (w : World) (h : Own W w ((box b11 (.cells #[.int .u8 (zk : Int), .string ⟨zb.toArray⟩, .int .i64 zn, .string ⟨ib.toArray⟩, .int .i64 io, .int .i64 ia, .int .i64 is, .int .i64 ex.k, .int .i64 ex.id, .string ⟨ex.ref.toArray⟩, .string ⟨ex.sku.toArray⟩, .int .i64 ex.qty, .int .i64 ex.amt, .int .i64 ex.o, .int .i64 ex.d, .int .i64 ex.c, .int .i64 ex.p, .int .i64 ex.q, .slice ep en ec] 86)) :: (dkPs ⟨y.t, yv, yk, yu, ypm, ybm⟩ D ++ (rdPs t v u D ++ (coPs ⟨a.c, av, ak, au, apm, abm⟩ S i' A ++ (inPs i' A ++ (rcB ⟨x.r, xv, xu, x0, x1, x2⟩ A :: N))))))) => plAppr (b := zb) (n := zn) h HF.out.dk.itOk HF.out.dk.bk HF.out.inv.ok.bk k2 k3 (by omega) (by omega) hL)
      have RE := Lib.hid (fun (w : World) (y9 : DkA) (D1 : DkS) (h : Own W w ((box b11 (.cells #[.int .u8 (zk : Int), .string ⟨zb.toArray⟩, .int .i64 zn, .string ⟨ib.toArray⟩, .int .i64 io, .int .i64 ia, .int .i64 is, .int .i64 ex.k, .int .i64 ex.id, .string ⟨ex.ref.toArray⟩, .string ⟨ex.sku.toArray⟩, .int .i64 ex.qty, .int .i64 ex.amt, .int .i64 ex.o, .int .i64 ex.d, .int .i64 ex.c, .int .i64 ex.p, .int .i64 ex.q, .slice ep en ec] 86)) :: (dkPs y9 D1 ++ (rdPs t v u D ++ (coPs ⟨a.c, av, ak, au, apm, abm⟩ S i' A ++ (inPs i' A ++ (rcB ⟨x.r, xv, xu, x0, x1, x2⟩ A :: N))))))) => plRAppr (b := zb) (n := zn) h HRC.out HF.out.dk.itOk HF.out.dk.bk HF.out.pw HF.out.inv.ok.bk HF.out.inv.small (by omega) k2 k3 (by omega) (by omega))
      have HF9 := Lib.hid (HF.out.appr zb zn)
      simp only at AP RE
      generalize apprE S D zb zn = e9 at *
      generalize apprD S D zb zn = D9 at *
      rcases hm45 with rfl | rfl
      all_goals
        go_upto_region 18 with (fail)
        refine region_sched2 ([box b11 (.cells #[.int .u8 (zk : Int), .string ⟨zb.toArray⟩, .int .i64 zn, .string ⟨ib.toArray⟩, .int .i64 io, .int .i64 ia, .int .i64 is, .int .i64 ex.k, .int .i64 ex.id, .string ⟨ex.ref.toArray⟩, .string ⟨ex.sku.toArray⟩, .int .i64 ex.qty, .int .i64 ex.amt, .int .i64 ex.o, .int .i64 ex.d, .int .i64 ex.c, .int .i64 ex.p, .int .i64 ex.q, .slice ep en ec] 86)]) [(0, true), (1, true), (2, true), (3, true), (4, true), (5, true), (7, true), (8, true), (9, true), (10, true), (11, true), (12, true), (6, false), (13, false), (14, true), (15, true)] HO (by with_reducible (repeat (first | exact List.nil_sublist _ | apply List.Sublist.cons_cons))) (by kernel_rfl) (by kernel_rfl) ?_
        clear HO
        intro w HO
        repeat (first | ((with_reducible apply wpSched_loadOne); exact rfl; exact rfl; exact rfl; (repeat (with_reducible (exact At.head _))); exact rfl; infer_instance; exact rfl; (simp only [Act.put, zA, zB, zC])) | ((with_reducible apply wpSched_pure); exact rfl; exact rfl; (intro w'; go_simp; try with_reducible rfl); (simp only [Act.put, zA, zB, zC])))
        ((with_reducible apply wpSched_loud); exact rfl; go_wp2_with ((go_at_call 47; go_must ((have h9 := AP.out _ HO); (with_reducible refine h9.mono ?_); clear h9 HO; rintro e w ⟨rfl, u8, HO⟩))))
        refine thenQ_keep (HO.held (by with_reducible (repeat (first | exact List.nil_sublist _ | apply List.Sublist.cons_cons)))) ?_
        ((with_reducible apply wpSched_loud); exact rfl; go_wp2_with ((go_at_call 54; go_must ((have h9 := RE.out _ _ _ HO); (with_reducible refine h9.mono ?_); clear h9 HO; rintro e w ⟨rfl, v9, u9, HO⟩))))
        refine thenQ_free (by kernel_rfl) ?_
        repeat ((with_reducible apply wpSched_pure); exact rfl; exact rfl; (intro w'; go_simp; try with_reducible rfl); (simp only [Act.put, zA, zB, zC]))
        refine wpSched_end ?_
        clear AP RE
        have hF := HF9
        have hR9 := Lib.hid (HRC.out)
        have OPd := Lib.hid (fun (w : World) (h : Own W w ((box b11 (.cells #[.int .u8 (zk : Int), .string ⟨zb.toArray⟩, .int .i64 zn, .string ⟨ib.toArray⟩, .int .i64 io, .int .i64 ia, .int .i64 is, .int .i64 ex.k, .int .i64 ex.id, .string ⟨ex.ref.toArray⟩, .string ⟨ex.sku.toArray⟩, .int .i64 ex.qty, .int .i64 ex.amt, .int .i64 ex.o, .int .i64 ex.d, .int .i64 ex.c, .int .i64 ex.p, .int .i64 ex.q, .slice ep en ec] 86)) :: (dkPs ⟨y.t, yv, yk, u8, ypm, ybm⟩ D9 ++ (rdPs t v9 u9 D9 ++ (coPs ⟨a.c, av, ak, au, apm, abm⟩ S i' A ++ (inPs i' A ++ (rcB ⟨x.r, xv, xu, x0, x1, x2⟩ A :: N))))))) => dkOpen_any (o := io) (pl_dk h) (pl_co h) hF.out.dk.itOk hF.out.inv.ok.bk k5)
        have OPr := Lib.hid (fun (w : World) (h : Own W w ((box b11 (.cells #[.int .u8 (zk : Int), .string ⟨zb.toArray⟩, .int .i64 zn, .string ⟨ib.toArray⟩, .int .i64 io, .int .i64 ia, .int .i64 is, .int .i64 ex.k, .int .i64 ex.id, .string ⟨ex.ref.toArray⟩, .string ⟨ex.sku.toArray⟩, .int .i64 ex.qty, .int .i64 ex.amt, .int .i64 ex.o, .int .i64 ex.d, .int .i64 ex.c, .int .i64 ex.p, .int .i64 ex.q, .slice ep en ec] 86)) :: (dkPs ⟨y.t, yv, yk, u8, ypm, ybm⟩ D9 ++ (rdPs t v9 u9 D9 ++ (coPs ⟨a.c, av, ak, au, apm, abm⟩ S i' A ++ (inPs i' A ++ (rcB ⟨x.r, xv, xu, x0, x1, x2⟩ A :: N))))))) => rdOpen_any (pl_rd h) (pl_rcAt h hR9.out) hF.out.dk.itOk hF.out.inv.ok.bk hF.out.inv.small (by have := hF.out.sp; omega) io)
        have AL := Lib.hid (fun (w : World) (h : Own W w ((box b11 (.cells #[.int .u8 (zk : Int), .string ⟨zb.toArray⟩, .int .i64 zn, .string ⟨ib.toArray⟩, .int .i64 io, .int .i64 ia, .int .i64 is, .int .i64 ex.k, .int .i64 ex.id, .string ⟨ex.ref.toArray⟩, .string ⟨ex.sku.toArray⟩, .int .i64 ex.qty, .int .i64 ex.amt, .int .i64 ex.o, .int .i64 ex.d, .int .i64 ex.c, .int .i64 ex.p, .int .i64 ex.q, .slice ep en ec] 86)) :: (dkPs ⟨y.t, yv, yk, u8, ypm, ybm⟩ D9 ++ (rdPs t v9 u9 D9 ++ (coPs ⟨a.c, av, ak, au, apm, abm⟩ S i' A ++ (inPs i' A ++ (rcB ⟨x.r, xv, xu, x0, x1, x2⟩ A :: N))))))) (n : Int) (k : Bool) => alike_any (pl_dk h) (pl_rd h) hF.out.dk.itOk (by have := hF.out.dk.len; omega) (by have := hF.out.dp; omega) n k)
        simp only at OPd OPr AL
        generalize openD S (D9 : DkS).I io = g9 at *
        obtain ⟨g1, g2⟩ := g9
        simp only at OPd OPr
        go_wp2_with (first | (((with_reducible apply wpList_loadOne HO); exact rfl; exact rfl; (repeat (with_reducible (exact At.head _))); exact rfl; infer_instance; exact rfl; (simp only [Act.put, zA, zB, zC]))) | (go_at_call 41; go_must ((with_reducible refine (OPd.out _ HO).mono ?_); rintro e w ⟨rfl, hb⟩; replace HO := HO.call hb; clear hb)) | (go_at_call 56; go_must ((with_reducible refine (OPr.out _ HO).mono ?_); rintro e w ⟨rfl, hb⟩; replace HO := HO.call hb; clear hb)) | (go_at_call 57; go_must ((with_reducible refine (AL.out _ HO _ _).mono ?_); rintro e w ⟨rfl, hb⟩; replace HO := HO.call hb; clear hb)))
        replace HO := HO.tail
        go_roundw
        case rel => exact ⟨j + 1, ⟨y.t, yv, yk, u8, ypm, ybm⟩, v9, u9, ⟨a.c, av, ak, au, apm, abm⟩, S, i', A, ⟨x.r, xv, xu, x0, x1, x2⟩, N, D9, by omega, by go_num, rfl, rfl, rfl, hF.out, hR9.out, HO⟩
        case measure => simp [intOf] <;> omega
    · have d4 : (m == 4) = false := by simpa using n4
      have d5 : (m == 5) = false := by simpa using n5
      have d6 : (m == 6) = false := by simpa using n6
      have d7 : (m == 7) = false := by simpa using n7
      have PR := Lib.hid (fun (w : World) (h : Own W w ((box b11 (.cells #[.int .u8 (zk : Int), .string ⟨zb.toArray⟩, .int .i64 zn, .string ⟨ib.toArray⟩, .int .i64 io, .int .i64 ia, .int .i64 is, .int .i64 ex.k, .int .i64 ex.id, .string ⟨ex.ref.toArray⟩, .string ⟨ex.sku.toArray⟩, .int .i64 ex.qty, .int .i64 ex.amt, .int .i64 ex.o, .int .i64 ex.d, .int .i64 ex.c, .int .i64 ex.p, .int .i64 ex.q, .slice ep en ec] 86)) :: (dkPs ⟨y.t, yv, yk, yu, ypm, ybm⟩ D ++ (rdPs t v u D ++ (coPs ⟨a.c, av, ak, au, apm, abm⟩ S i' A ++ (inPs i' A ++ (rcB ⟨x.r, xv, xu, x0, x1, x2⟩ A :: N))))))) => plProp (⟨ib, io, ia, is⟩ : ItemS) h HF.out.dk.itOk HF.out.inv.ok.bk k5 k4 (by omega))
      have RE := Lib.hid (fun (w : World) (y9 : DkA) (D1 : DkS) (h : Own W w ((box b11 (.cells #[.int .u8 (zk : Int), .string ⟨zb.toArray⟩, .int .i64 zn, .string ⟨ib.toArray⟩, .int .i64 io, .int .i64 ia, .int .i64 is, .int .i64 ex.k, .int .i64 ex.id, .string ⟨ex.ref.toArray⟩, .string ⟨ex.sku.toArray⟩, .int .i64 ex.qty, .int .i64 ex.amt, .int .i64 ex.o, .int .i64 ex.d, .int .i64 ex.c, .int .i64 ex.p, .int .i64 ex.q, .slice ep en ec] 86)) :: (dkPs y9 D1 ++ (rdPs t v u D ++ (coPs ⟨a.c, av, ak, au, apm, abm⟩ S i' A ++ (inPs i' A ++ (rcB ⟨x.r, xv, xu, x0, x1, x2⟩ A :: N))))))) => plRProp (⟨ib, io, ia, is⟩ : ItemS) h HRC.out HF.out.dk.itOk HF.out.inv.ok.bk HF.out.inv.small (by omega) HF.out.inv.ok.len k5 k4 (by omega))
      have HF9 := Lib.hid (HF.out.prop (x := ⟨ib, io, ia, is⟩) k6)
      simp only at PR RE
      clear n4 n5 n6 n7
      generalize propE S D.I ⟨ib, io, ia, is⟩ = e9 at *
      generalize propN S D.I ⟨ib, io, ia, is⟩ = n9 at *
      generalize propI S D.I ⟨ib, io, ia, is⟩ = I9 at *
      go_upto_region 23 with (first | ((with_reducible apply wpList_loadPart HO); exact rfl; exact rfl; (repeat (with_reducible (exact At.head _))); infer_instance; exact (Nat.le_of_ble_eq_true rfl); (simp only [List.drop_succ_cons, List.drop_zero, List.take_succ_cons, List.take_zero]; rfl); exact rfl; (simp only [Act.put, zA, zB, zC])) | (go_at_call 42; go_must ((have h9 := PR.out _ HO); (with_reducible refine h9.mono ?_); clear h9 HO; rintro e w ⟨rfl, v8, HO⟩)) | (go_at_call 55; go_must ((have h9 := RE.out _ _ _ HO); (with_reducible refine h9.mono ?_); clear h9 HO; rintro e w ⟨rfl, v9, HO⟩)))
      clear PR RE d4 d5 d6 d7
      have hF := HF9
      have hR9 := Lib.hid (HRC.out)
      have OPd := Lib.hid (fun (w : World) (h : Own W w ((box b11 (.cells #[.int .u8 (zk : Int), .string ⟨zb.toArray⟩, .int .i64 zn, .string ⟨ib.toArray⟩, .int .i64 io, .int .i64 ia, .int .i64 is, .int .i64 ex.k, .int .i64 ex.id, .string ⟨ex.ref.toArray⟩, .string ⟨ex.sku.toArray⟩, .int .i64 ex.qty, .int .i64 ex.amt, .int .i64 ex.o, .int .i64 ex.d, .int .i64 ex.c, .int .i64 ex.p, .int .i64 ex.q, .slice ep en ec] 86)) :: (dkPs ⟨y.t, v8, yk, yu, ypm, ybm⟩ ⟨I9, D.P⟩ ++ (rdPs t v9 u ⟨I9, D.P⟩ ++ (coPs ⟨a.c, av, ak, au, apm, abm⟩ S i' A ++ (inPs i' A ++ (rcB ⟨x.r, xv, xu, x0, x1, x2⟩ A :: N))))))) => dkOpen_any (o := io) (pl_dk h) (pl_co h) hF.out.dk.itOk hF.out.inv.ok.bk k5)
      have OPr := Lib.hid (fun (w : World) (h : Own W w ((box b11 (.cells #[.int .u8 (zk : Int), .string ⟨zb.toArray⟩, .int .i64 zn, .string ⟨ib.toArray⟩, .int .i64 io, .int .i64 ia, .int .i64 is, .int .i64 ex.k, .int .i64 ex.id, .string ⟨ex.ref.toArray⟩, .string ⟨ex.sku.toArray⟩, .int .i64 ex.qty, .int .i64 ex.amt, .int .i64 ex.o, .int .i64 ex.d, .int .i64 ex.c, .int .i64 ex.p, .int .i64 ex.q, .slice ep en ec] 86)) :: (dkPs ⟨y.t, v8, yk, yu, ypm, ybm⟩ ⟨I9, D.P⟩ ++ (rdPs t v9 u ⟨I9, D.P⟩ ++ (coPs ⟨a.c, av, ak, au, apm, abm⟩ S i' A ++ (inPs i' A ++ (rcB ⟨x.r, xv, xu, x0, x1, x2⟩ A :: N))))))) => rdOpen_any (pl_rd h) (pl_rcAt h hR9.out) hF.out.dk.itOk hF.out.inv.ok.bk hF.out.inv.small (by have := hF.out.sp; omega) io)
      have AL := Lib.hid (fun (w : World) (h : Own W w ((box b11 (.cells #[.int .u8 (zk : Int), .string ⟨zb.toArray⟩, .int .i64 zn, .string ⟨ib.toArray⟩, .int .i64 io, .int .i64 ia, .int .i64 is, .int .i64 ex.k, .int .i64 ex.id, .string ⟨ex.ref.toArray⟩, .string ⟨ex.sku.toArray⟩, .int .i64 ex.qty, .int .i64 ex.amt, .int .i64 ex.o, .int .i64 ex.d, .int .i64 ex.c, .int .i64 ex.p, .int .i64 ex.q, .slice ep en ec] 86)) :: (dkPs ⟨y.t, v8, yk, yu, ypm, ybm⟩ ⟨I9, D.P⟩ ++ (rdPs t v9 u ⟨I9, D.P⟩ ++ (coPs ⟨a.c, av, ak, au, apm, abm⟩ S i' A ++ (inPs i' A ++ (rcB ⟨x.r, xv, xu, x0, x1, x2⟩ A :: N))))))) (n : Int) (k : Bool) => alike_any (pl_dk h) (pl_rd h) hF.out.dk.itOk (by have := hF.out.dk.len; omega) (by have := hF.out.dp; omega) n k)
      simp only at OPd OPr AL
      generalize openD S (⟨I9, D.P⟩ : DkS).I io = g9 at *
      obtain ⟨g1, g2⟩ := g9
      simp only at OPd OPr
      go_wp2_with (first | (((with_reducible apply wpList_loadOne HO); exact rfl; exact rfl; (repeat (with_reducible (exact At.head _))); exact rfl; infer_instance; exact rfl; (simp only [Act.put, zA, zB, zC]))) | (go_at_call 41; go_must ((with_reducible refine (OPd.out _ HO).mono ?_); rintro e w ⟨rfl, hb⟩; replace HO := HO.call hb; clear hb)) | (go_at_call 56; go_must ((with_reducible refine (OPr.out _ HO).mono ?_); rintro e w ⟨rfl, hb⟩; replace HO := HO.call hb; clear hb)) | (go_at_call 57; go_must ((with_reducible refine (AL.out _ HO _ _).mono ?_); rintro e w ⟨rfl, hb⟩; replace HO := HO.call hb; clear hb)))
      replace HO := HO.tail
      go_roundw
      case rel => exact ⟨j + 1, ⟨y.t, v8, yk, yu, ypm, ybm⟩, v9, u, ⟨a.c, av, ak, au, apm, abm⟩, S, i', A, ⟨x.r, xv, xu, x0, x1, x2⟩, N, ⟨I9, D.P⟩, by omega, by go_num, rfl, rfl, rfl, hF.out, hR9.out, HO⟩
      case measure => simp [intOf] <;> omega
end Go.Proofs.YtibabfedpdoofaaGreatDoor

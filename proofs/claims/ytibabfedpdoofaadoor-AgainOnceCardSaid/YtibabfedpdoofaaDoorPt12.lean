/-
  The document's core: a new one, what it has, a saga set, a posting posted, by walking its text; conditions: int64 numbers.
  What a saga becomes when it goes on, by walking both texts; conditions: none. (Printed by wip/mkon.py.)
  A saga's net, and its beginning, by walking the document's text; conditions: none.
  What a saga becomes by a reply, by walking both texts; conditions: none. (Printed by wip/mksaga.py.)
  What a saga becomes by being cancelled, by walking both texts; conditions: none. (Printed by wip/mksaga.py.)
-/
import Derived.Test.YtibabfedpdoofaaDoorPt7
import Derived.Test.YtibabfedpdoofaaDoorPt8
import Derived.Test.YtibabfedpdoofaaDoorPt10
import Derived.Test.YtibabfedpdoofaaDoorPt11
namespace Go.Proofs.YtibabfedpdoofaaDoor
open Go.RowKit Go.Own Go.Maps

/-- Where the document's core lies: its block, its slices. -/
structure RcA where
  r : Nat
  v : Value
  u : Value
  v0 : Value
  v1 : Value
  v2 : Value
def rcC (x : RcA) (A : InS) : List Value := [x.v, x.u, .int .i64 A.p0, .int .i64 A.q0, x.v0, .int .i64 A.p1, .int .i64 A.q1, x.v1, .int .i64 A.p2, .int .i64 A.q2, x.v2]
def rcB (x : RcA) (A : InS) : Ent := box x.r (.cells (rcC x A).toArray 132)
/-- What its slices are. -/
structure RcS (w : World) (x : RcA) (S : CoS) (A : InS) : Prop where
  l : IsL w 12 x.v (S.L.map sagaL)
  b : IsL w 5 x.u (S.P.map pstC)
  i0 : IsRows w x.v0 A.r0
  i1 : IsRows w x.v1 A.r1
  i2 : IsRows w x.v2 A.r2
/-- The same in any world where the pieces G stand. -/
def RcIn (W : World) (G : List Ent) (x : RcA) (S : CoS) (A : InS) : Prop := ∀ w' : World, Below W.heap.size W w' → (∀ e ∈ G, e.F w') → RcS w' x S A
def RowsF (W : World) (G : List Ent) (v : Value) (rs : List RowS) : Prop := ∀ w' : World, Below W.heap.size W w' → (∀ e ∈ G, e.F w') → IsRows w' v rs
theorem RowsF.into {W : World} {G M : List Ent} {v : Value} {rs : List RowS} (h : RowsF W G v rs) (hm : ∀ e ∈ G, e ∈ M) : RowsIn W M v rs := fun w' _ hO hM => h w' hO.grown (fun e he => hO.has _ (hM e (hm e he)))
theorem RcIn.at {W w : World} {G L : List Ent} {x : RcA} {S : CoS} {A : InS} (h : RcIn W G x S A) (hO : Own W w L) (hm : ∀ e ∈ G, e ∈ L) : RcS w x S A := h w hO.grown (fun e he => hO.has _ (hm e he))
theorem RcIn.setL {W : World} {G : List Ent} {x : RcA} {S : CoS} {A : InS} (h : RcIn W G x S A) (v' : Value) (L' : List (OrdS × D6)) (t : TypeId) : RcIn W (row t 12 v' (L'.map sagaL) :: G) { x with v := v' } { S with L := L' } A := fun w' hb hF =>
  have h1 := h w' hb (fun e he => hF e (List.mem_cons_of_mem _ he))
  ⟨isL_of_owns (sagaL_len _) (hF _ List.mem_cons_self), h1.b, h1.i0, h1.i1, h1.i2⟩
theorem RcIn.setP {W : World} {G : List Ent} {x : RcA} {S : CoS} {A : InS} (h : RcIn W G x S A) (u' : Value) (P' : List Pst) (t : TypeId) : RcIn W (row t 5 u' (P'.map pstC) :: G) { x with u := u' } { S with P := P' } A := fun w' hb hF =>
  have h1 := h w' hb (fun e he => hF e (List.mem_cons_of_mem _ he))
  ⟨h1.l, isL_of_owns (pstC_len _) (hF _ List.mem_cons_self), h1.i0, h1.i1, h1.i2⟩
theorem RcIn.mono {W : World} {G H : List Ent} {x : RcA} {S : CoS} {A : InS} (h : RcIn W G x S A) (hs : ∀ e ∈ G, e ∈ H) : RcIn W H x S A := fun w' hb hF => h w' hb (fun e he => hF e (hs e he))
def rcNil (r : Nat) : RcA := ⟨r, .slice none 0 0, .slice none 0 0, .slice none 0 0, .slice none 0 0, .slice none 0 0⟩
theorem rcNil_in (W : World) (r : Nat) : RcIn W [] (rcNil r) ⟨[], []⟩ zeroI := fun _ _ _ => ⟨.none _ _ (fun _ => rfl), .none _ _ (fun _ => rfl), .none _ _ (fun _ => rfl), .none _ _ (fun _ => rfl), .none _ _ (fun _ => rfl)⟩

set_option maxHeartbeats 4000000 in
theorem rcNew_any (W : World) : Calls Tryd.prog 55 #[] W fun e w' => ∃ r, e = .returned (.pointer (some ⟨r, 0, none⟩)) ∧ Own W w' [rcB (rcNil r) zeroI] := by
  have HO := Own.start W
  go_enter Tryd.func55, Tryd.ntmps55
  go_wp2_with (first | (first | ((with_reducible apply wpList_boxAgg _ HO rfl); exact rfl; exact rfl; exact rfl; clear HO; intro b1 w HO; (simp only [Act.put, List.setIfInBounds_toArray, List.set_cons_succ, List.set_cons_zero])) | ((with_reducible apply wpList_allocAgg _ HO rfl); exact rfl; infer_instance; exact rfl; clear HO; intro b1 w HO; (simp only [Act.put, List.setIfInBounds_toArray, List.set_cons_succ, List.set_cons_zero]))) | go_big_skip)
  go_ret
  exact ⟨b1, rfl, HO⟩

set_option maxHeartbeats 8000000 in
set_option maxRecDepth 100000 in
theorem rcHas_any {w : World} {x : RcA} {S : CoS} {A : InS} (hb : w.heap[x.r]? = some (.cells (rcC x A).toArray 132)) (h : RcS w x S A) (ref : List UInt8) : Calls Tryd.prog 69 #[.pointer (some ⟨x.r, 0, none⟩), .string ⟨ref.toArray⟩] w fun e w' => e = .returned (.bool (hasL S.L ref)) ∧ Below w.heap.size w w' := by
  have HO := Own.start w
  obtain ⟨p, c, hv, hmx⟩ := h.l.slice
  rw [List.length_map] at hv hmx
  have HR := Lib.hid h.l
  have h0 := old_cell hb 0 rfl
  have hlt := old_lt hb
  have hmx' : (S.L.length : Int) ≤ 9223372036854775807 := by unfold maxLen at hmx; omega
  rw [hv] at h0
  generalize ha : x.v = av at *
  subst hv
  clear h ha hb
  generalize hg : hasL S.L ref = g0
  replace hg := Lib.hid hg
  go_enter Tryd.func69, Tryd.ntmps69
  go_wp2_with (first | go_big_skip)
  go_loopw [5] (fun i wr => ∃ j : Nat, j ≤ S.L.length ∧ i = .int .i64 (j : Int) ∧ hasL (S.L.take j) ref = false ∧ Own w wr []) (fun i _ => S.L.length - (intOf i).toNat)
  case atStart => exact ⟨0, by omega, rfl, rfl, HO⟩
  case round =>
    clear HO
    obtain ⟨j, hj, rfl, hnf, HO⟩ := hrel
    by_cases hjl : j < S.L.length
    · have hjI : (j : Int) < (S.L.length : Int) := by omega
      obtain ⟨b, rfl, hst⟩ := oldAt HR.out rfl hjl
      have HX := Lib.hid (show S.L[j].1.ref ≠ ref → hasL (S.L.take (j + 1)) ref = false from fun hx => by
        unfold hasL at hnf ⊢
        rw [List.take_succ_eq_append_getElem hjl, List.any_append, hnf]
        simpa using hx)
      have HY := Lib.hid (show S.L[j].1.ref = ref → hasL S.L ref = true from fun hx => by
        unfold hasL
        rw [List.any_eq_true]
        exact ⟨S.L[j], List.getElem_mem hjl, by simpa using hx⟩)
      clear hnf
      generalize S.L[j] = y at *
      obtain ⟨o, s⟩ := y
      unfold sagaL at hst
      have hs1 := fun w' (h1 : Own w w' []) => hst w' h1.grown 1 _ rfl
      clear hst
      by_cases hz : o.ref = ref
      · obtain rfl : g0 = true := hg.out.symm.trans (HY.out hz)
        have hD : (o.ref == ref) = true := by simpa using hz
        clear HX HY hz
        go_wp2_with (first | go_big_skip | ((with_reducible apply wpList_loadOld1 HO); exact rfl; exact rfl; exact hlt; exact h0; infer_instance; exact rfl; (simp only [Act.put, List.setIfInBounds_toArray, List.set_cons_succ, List.set_cons_zero])) | ((with_reducible apply wpList_loadAt1 HO); exact rfl; exact rfl; exact (hs1); infer_instance; exact rfl; (simp only [Act.put, List.setIfInBounds_toArray, List.set_cons_succ, List.set_cons_zero])))
        go_ret
        exact ⟨rfl, HO.grown⟩
      · have HZ := Lib.hid (HX.out hz)
        have hD : (o.ref == ref) = false := by simpa using hz
        clear HX HY hz
        go_wp2_with (first | go_big_skip | ((with_reducible apply wpList_loadOld1 HO); exact rfl; exact rfl; exact hlt; exact h0; infer_instance; exact rfl; (simp only [Act.put, List.setIfInBounds_toArray, List.set_cons_succ, List.set_cons_zero])) | ((with_reducible apply wpList_loadAt1 HO); exact rfl; exact rfl; exact (hs1); infer_instance; exact rfl; (simp only [Act.put, List.setIfInBounds_toArray, List.set_cons_succ, List.set_cons_zero])))
        go_roundw
        case rel => exact ⟨j + 1, by omega, by go_num, HZ.out, HO⟩
        case measure => simp [intOf] <;> omega
    · obtain rfl : j = S.L.length := by omega
      rw [List.take_length] at hnf
      obtain rfl : g0 = false := hg.out.symm.trans hnf
      clear hnf
      go_wp2_with (first | go_big_skip | ((with_reducible apply wpList_loadOld1 HO); exact rfl; exact rfl; exact hlt; exact h0; infer_instance; exact rfl; (simp only [Act.put, List.setIfInBounds_toArray, List.set_cons_succ, List.set_cons_zero])))
      go_ret
      exact ⟨rfl, HO.grown⟩

theorem sagaL_one (l : List (OrdS × D6)) : ∀ u ∈ (l.map sagaL).flatten, u.oneCell' = true := by
  intro u hu
  obtain ⟨x, hx, hu⟩ := List.mem_flatten.1 hu
  obtain ⟨p, _, rfl⟩ := List.mem_map.1 hx
  simp only [sagaL, List.mem_cons, List.not_mem_nil, or_false] at hu
  rcases hu with rfl | rfl | rfl | rfl | rfl | rfl | rfl | rfl | rfl | rfl | rfl | rfl <;> rfl

set_option maxHeartbeats 8000000 in
set_option maxRecDepth 100000 in
theorem rcSet_any {W w : World} {M : List Ent} {x : RcA} {A : InS} {L : List (OrdS × D6)} (o : OrdS) (d : D6) {j : Nat} (HO : Own W w (rcB x A :: M)) (hl : ∀ (w' : World) (L' : List Ent), Own W w' L' → (∀ e ∈ M, e ∈ L') → IsL w' 12 x.v (L.map sagaL)) (hid : o.id = (j : Int) + 1) (hj : j < L.length) (hlen : L.length ≤ 1000) :
    Calls Tryd.prog 72 #[.pointer (some ⟨x.r, 0, none⟩), sagaV o d] w fun e w' => e = .returned (.tuple #[]) ∧ ∃ v', Own W w' (rcB { x with v := v' } A :: row 133 12 v' ((L.set j (o, d)).map sagaL) :: M) := by
  obtain ⟨r, v, u, v0, v1, v2⟩ := x
  have HL := Lib.hid (sagaL_len L)
  have H1 := Lib.hid (sagaL_one L)
  have HU := Lib.hid hl
  obtain ⟨p, c, hv, -⟩ := (hl _ _ HO (fun e he => List.mem_cons_of_mem _ he)).slice
  simp only at hv
  subst hv
  rw [List.length_map] at HO
  rw [List.length_map] at HU
  have hset := Lib.hid (show (L.set j (o, d)).map sagaL = (L.map sagaL).set j (sagaL (o, d)) from List.map_set ..)
  have hjm : j < (L.map sagaL).length := by simpa using hj
  have hjI : (j : Int) < (L.length : Int) := by omega
  have e1 : IntKind.i64.wrap ((j : Int) + 1 - 1) = (j : Int) := by rw [show (j : Int) + 1 - 1 = (j : Int) by omega, wrap_in (inI_iff.2 (by omega))]
  have hlm : ([] : List (List Value)).length + (L.map sagaL).length ≤ 1000000 := by rw [List.length_map]; simp; omega
  clear hl
  unfold rcB rcC at HO
  obtain ⟨oid, oref, osku, oq, oa⟩ := o
  simp only at hid HO
  replace HO := HO.nil 133 12
  replace HO := HO.swap
  unfold rcB rcC
  simp only [sagaV]
  have e2 : IntKind.i64.wrap (oid - 1) = (j : Int) := by rw [hid]; exact e1
  clear e1 hid
  go_enter Tryd.func72, Tryd.ntmps72
  go_wp2_with (first | go_big_skip | (first | go_big_skip | ((with_reducible apply wpList_loadAll HO); exact rfl; exact rfl; (repeat (with_reducible (first | exact At.head _ | apply At.tail))); infer_instance; exact rfl; exact rfl; (simp only [Act.put, List.setIfInBounds_toArray, List.set_cons_succ, List.set_cons_zero])) | ((with_reducible apply wpList_loadOne HO); exact rfl; exact rfl; (repeat (with_reducible (first | exact At.head _ | apply At.tail))); exact rfl; infer_instance; exact rfl; (simp only [Act.put, List.setIfInBounds_toArray, List.set_cons_succ, List.set_cons_zero]))) | (first | ((with_reducible apply wpList_boxAgg _ HO rfl); exact rfl; exact rfl; exact rfl; clear HO; intro b3 w HO; (simp only [Act.put, List.setIfInBounds_toArray, List.set_cons_succ, List.set_cons_zero])) | ((with_reducible apply wpList_allocAgg _ HO rfl); exact rfl; infer_instance; exact rfl; clear HO; intro b3 w HO; (simp only [Act.put, List.setIfInBounds_toArray, List.set_cons_succ, List.set_cons_zero]))) | ((with_reducible apply wpList_storeOne HO); exact rfl; exact rfl; (first | (simp [Act.eval]; rfl) | exact rfl); exact rfl; (repeat (with_reducible (first | exact At.head _ | apply At.tail))); infer_instance; exact (by simp); (simp only [List.set_cons_zero]; rfl); exact rfl; clear HO; intro w HO; (simp only [Act.put])) | (((with_reducible apply wpList_appendAll HO); exact rfl; infer_instance; infer_instance; (first | (simp [Act.eval]; rfl) | exact rfl); exact rfl; exact (HU.out _ _ HO (by intro e he; repeat (first | exact he | apply List.mem_cons_of_mem))); exact HL.out; exact H1.out; intro _; (repeat (with_reducible (first | exact At.head _ | apply At.tail))); (first | omega | (simp; omega)); decide; exact rfl; clear HO; intro v2 w HO hv2; (simp only [Act.put, List.setIfInBounds_toArray, List.set_cons_succ, List.set_cons_zero])); (obtain ⟨p2, n2, c2, rfl⟩ := hv2)))
  obtain ⟨⟨p3, c3, hv3⟩, hv4⟩ := HO.rowForm (t := 133) (k := 12) (v := .slice p2 n2 c2) (by (repeat (with_reducible (first | exact At.head _ | apply At.tail))))
  obtain ⟨q2, c4, hv5⟩ := hv4 (by simp; omega)
  cases hv5
  clear hv3
  simp only [List.nil_append, List.length_map] at HO ⊢
  go_upto_region 2 with (first | ((with_reducible apply wpList_storeOne HO); exact rfl; exact rfl; (first | (simp [Act.eval]; rfl) | exact rfl); exact rfl; (repeat (with_reducible (first | exact At.head _ | apply At.tail))); infer_instance; exact (by simp); (simp only [List.set_cons_succ, List.set_cons_zero]; rfl); exact rfl; clear HO; intro w HO; (simp only [Act.put])))
  refine region_sched2 ([box b3 (.cells #[.int .i64 oid, .string ⟨oref.toArray⟩, .string ⟨osku.toArray⟩, .int .i64 oq, .int .i64 oa, .int .i64 d.a, .int .i64 d.b, .int .i64 d.c, .int .i64 d.d, .int .i64 d.e, .int .i64 d.f, .bool d.x] 133), box r (.cells #[.slice (some q2) L.length c2, u, .int .i64 A.p0, .int .i64 A.q0, v0, .int .i64 A.p1, .int .i64 A.q1, v1, .int .i64 A.p2, .int .i64 A.q2, v2] 132)]) [(0, true), (1, true), (2, true), (3, true), (4, true), (5, true), (6, true), (7, true), (8, true), (9, true), (10, false)] HO (by with_reducible (repeat (first | exact List.nil_sublist _ | apply List.Sublist.cons_cons | apply List.Sublist.cons))) (by kernel_rfl) (by kernel_rfl) ?_
  clear HO
  intro w HO
  repeat (first | ((with_reducible apply wpSched_loadOne); exact rfl; exact rfl; exact rfl; (repeat (with_reducible (first | exact At.head _ | apply At.tail))); exact rfl; infer_instance; exact rfl; (simp only [Act.put, List.setIfInBounds_toArray, List.set_cons_succ, List.set_cons_zero])) | ((with_reducible apply wpSched_loadAll); exact rfl; exact rfl; exact rfl; (repeat (with_reducible (first | exact At.head _ | apply At.tail))); infer_instance; exact rfl; exact rfl; (simp only [Act.put, List.setIfInBounds_toArray, List.set_cons_succ, List.set_cons_zero])) | ((with_reducible apply wpSched_pure); exact rfl; exact rfl; (intro w'; go_simp; try with_reducible rfl); (simp only [Act.put, List.setIfInBounds_toArray, List.set_cons_succ, List.set_cons_zero])))
  ((with_reducible apply wpSched_loud); exact rfl; ((with_reducible apply wpList_storeRow HO); exact rfl; exact rfl; (first | (simp [Act.eval]; rfl) | exact rfl); exact rfl; (repeat (with_reducible (first | exact At.head _ | apply At.tail))); exact (HL.out); (simp; omega); exact rfl; infer_instance; exact rfl; exact rfl; clear HO; intro w HO; (simp only [Act.put])))
  refine wpList_nil (thenQ_free (by kernel_rfl) ?_)
  refine wpSched_end ?_
  go_end0
  refine ⟨rfl, .slice (some q2) L.length c2, ?_⟩
  rw [hset.out]
  exact HO.tail

set_option maxHeartbeats 8000000 in
set_option maxRecDepth 100000 in
theorem rcPost_any {W w : World} {M : List Ent} {x : RcA} {A : InS} {P : List Pst} (id : ByteArray) (o d c a : Int) (HO : Own W w (rcB x A :: M)) (hl : ∀ (w' : World) (L' : List Ent), Own W w' L' → (∀ e ∈ M, e ∈ L') → IsL w' 5 x.u (P.map pstC)) (hlen : P.length ≤ 100000) :
    Calls Tryd.prog 77 #[.pointer (some ⟨x.r, 0, none⟩), .string id, .int .i64 o, .int .i64 d, .int .i64 c, .int .i64 a] w fun e w' => e = .returned (.tuple #[]) ∧ ∃ u', Own W w' (rcB { x with u := u' } A :: row 111 5 u' ((P ++ [(⟨id, o, d, c, a⟩ : Pst)]).map pstC) :: M) := by
  obtain ⟨r, v, u, v0, v1, v2⟩ := x
  have HL := Lib.hid (pstC_len P)
  have H1 := Lib.hid (pstC_one P)
  have HU := Lib.hid hl
  obtain ⟨p, cc, hv, -⟩ := (hl _ _ HO (fun e he => List.mem_cons_of_mem _ he)).slice
  simp only at hv
  subst hv
  rw [List.length_map] at HO
  rw [List.length_map] at HU
  have hpc := Lib.hid (show (P ++ [(⟨id, o, d, c, a⟩ : Pst)]).map pstC = P.map pstC ++ [[.string id, .int .i64 o, .int .i64 d, .int .i64 c, .int .i64 a]] by simp [pstC])
  have hlm : ([] : List (List Value)).length + (P.map pstC).length ≤ 1000000 := by rw [List.length_map]; simp; omega
  have hlm2 : ([] ++ P.map pstC).length + 1 ≤ 1000000 := by rw [List.nil_append, List.length_map]; omega
  clear hl
  unfold rcB rcC at HO
  simp only at HO
  replace HO := HO.nil 111 5
  replace HO := HO.swap
  unfold rcB rcC
  go_enter Tryd.func77, Tryd.ntmps77
  go_wp2_with (first | go_big_skip | (first | go_big_skip | ((with_reducible apply wpList_loadAll HO); exact rfl; exact rfl; (repeat (with_reducible (first | exact At.head _ | apply At.tail))); infer_instance; exact rfl; exact rfl; (simp only [Act.put, List.setIfInBounds_toArray, List.set_cons_succ, List.set_cons_zero])) | ((with_reducible apply wpList_loadOne HO); exact rfl; exact rfl; (repeat (with_reducible (first | exact At.head _ | apply At.tail))); exact rfl; infer_instance; exact rfl; (simp only [Act.put, List.setIfInBounds_toArray, List.set_cons_succ, List.set_cons_zero]))) | (first | ((with_reducible apply wpList_lit1 HO); exact rfl; infer_instance; infer_instance; exact rfl; exact rfl; exact (by decide); exact rfl; clear HO; intro bl w HO; (simp only [Act.put, List.setIfInBounds_toArray, List.set_cons_succ, List.set_cons_zero])) | ((with_reducible apply wpList_lit1c HO); exact rfl; infer_instance; infer_instance; (first | (simp [Act.eval]; rfl) | exact rfl); exact rfl; exact rfl; clear HO; intro bl w HO; (simp only [Act.put, List.setIfInBounds_toArray, List.set_cons_succ, List.set_cons_zero]))) | (((with_reducible apply wpList_push1 HO); exact rfl; infer_instance; infer_instance; (first | (simp [Act.eval]; rfl) | exact rfl); exact rfl; intro _; (repeat (with_reducible (first | exact At.head _ | apply At.tail))); exact rfl; exact rfl; (first | omega | (simp; omega)); decide; exact rfl; clear HO; intro v2 w HO hv2; (simp only [Act.put, List.setIfInBounds_toArray, List.set_cons_succ, List.set_cons_zero])); (obtain ⟨p2, n2, c2, rfl⟩ := hv2)) | ((with_reducible apply wpList_storeOne HO); exact rfl; exact rfl; (first | (simp [Act.eval]; rfl) | exact rfl); exact rfl; (repeat (with_reducible (first | exact At.head _ | apply At.tail))); infer_instance; exact (by simp); (simp only [List.set_cons_succ, List.set_cons_zero]; rfl); exact rfl; clear HO; intro w HO; (simp only [Act.put])) | ((with_reducible apply wpList_appendAll HO); exact rfl; infer_instance; infer_instance; (first | (simp [Act.eval]; rfl) | exact rfl); exact rfl; exact (HU.out _ _ HO (by intro e he; repeat (first | exact he | apply List.mem_cons_of_mem))); exact HL.out; exact H1.out; intro _; (repeat (with_reducible (first | exact At.head _ | apply At.tail))); (first | omega | (simp; omega)); decide; exact rfl; clear HO; intro v2 w HO hv2; (simp only [Act.put, List.setIfInBounds_toArray, List.set_cons_succ, List.set_cons_zero])))
  go_end0
  refine ⟨rfl, .slice p2 n2 c2, ?_⟩
  simpa [pstC] using HO
end Go.Proofs.YtibabfedpdoofaaDoor
namespace Go.Proofs.YtibabfedpdoofaaDoor
open Go.RowKit Go.Own

set_option maxHeartbeats 8000000 in
set_option maxRecDepth 100000 in
theorem refOn_any (o : OrdS) (s : D6) (w : World) : Calls Tryd.prog 87 #[sagaV o s] w fun e w' => e = .returned (sagaV o (onOf s)) ∧ Below w.heap.size w w' := by
  have B := fun w => refBack_any o s w
  obtain ⟨a, b, c, d, e, f, x⟩ := s
  cases hk : backOf ⟨a, b, c, d, e, f, x⟩
  · rw [(show sagaV o ⟨a, b, c, d, e, f, x⟩ = .agg #[.int .i64 o.id, .string ⟨o.ref.toArray⟩, .string ⟨o.sku.toArray⟩, .int .i64 o.qty, .int .i64 o.amt, .int .i64 a, .int .i64 b, .int .i64 c, .int .i64 d, .int .i64 e, .int .i64 f, .bool x] from rfl), hk] at B
    rw [(show sagaV o ⟨a, b, c, d, e, f, x⟩ = .agg #[.int .i64 o.id, .string ⟨o.ref.toArray⟩, .string ⟨o.sku.toArray⟩, .int .i64 o.qty, .int .i64 o.amt, .int .i64 a, .int .i64 b, .int .i64 c, .int .i64 d, .int .i64 e, .int .i64 f, .bool x] from rfl)]
    by_cases ha : a = 0
    · have HQ := Lib.hid (show onOf ⟨a, b, c, d, e, f, x⟩ = ⟨1, b, c, d, e, f, x⟩ from (onOf_fwd hk).trans (by simp [ha]))
      have hab : (a == 0) = true := by simpa using ha
      clear hk ha
      go_enter Tryd.func87, Tryd.ntmps87
      go_wp2_with (go_at_call 99; go_must ((with_reducible refine (B _).mono ?_); rintro e w1 ⟨rfl, hb⟩; obtain ⟨hc, hf⟩ := bcell hb; have hz := hb.size; (try simp at hz); (try have hzT := Nat.lt_of_succ_le hz); have hzA : w.heap.size < w1.heap.size := (by omega); have hzB : w.heap.size + 1 < w1.heap.size := (by omega); have hzA2 := Nat.le_of_lt hzA; have hzB2 := Nat.le_of_lt hzB))
      obtain ⟨L1, L2, f1, f2⟩ := after2 hb; have k0 := L1 0 _ rfl; have k1 := L1 1 _ rfl; have k2 := L1 2 _ rfl; have k3 := L1 3 _ rfl; have k4 := L1 4 _ rfl; have k5 := L1 5 _ rfl; have k6 := L1 6 _ rfl; have k7 := L1 7 _ rfl; have k8 := L1 8 _ rfl; have k9 := L1 9 _ rfl; have k10 := L1 10 _ rfl; have k11 := L1 11 _ rfl; have m0 := L2 0 _ rfl; have m1 := L2 1 _ rfl; have m2 := L2 2 _ rfl; have m3 := L2 3 _ rfl; have m4 := L2 4 _ rfl; have m5 := L2 5 _ rfl; have m6 := L2 6 _ rfl; have m7 := L2 7 _ rfl; have m8 := L2 8 _ rfl; have m9 := L2 9 _ rfl; have m10 := L2 10 _ rfl; have m11 := L2 11 _ rfl; clear L1 L2 hc hf
      refine wp_loop_rounds 4 ?_
      rw [rounds_succ]
      go_wp2_with fail
      all_goals (try (rw [rounds_succ]; go_wp2_with fail))
      all_goals (try (rw [rounds_succ]; go_wp2_with fail))
      all_goals (try (rw [rounds_succ]; go_wp2_with fail))
      refine bodyPost_ret (v := sagaV o ⟨1, b, c, d, e, f, x⟩) (by unfold sagaV; simp [results, Tryd.results87, go_sem, *]) rfl ⟨by rw [HQ.out], (by with_reducible (repeat (first | assumption | exact Below.refl _ _ | refine Below.drew ?_ | refine below_drewN ?_ _ | refine Below.alloc ?_ (by first | (simp; done) | omega | (simp; omega)) _ | refine Below.setCell ?_ (by first | (simp; done) | omega | (simp; omega)) _ | refine Below.trans ?_ (Below.mono (by assumption) (by first | (simp; done) | omega | (simp; omega))))))⟩
    · have hab : (a == 0) = false := by simpa using ha
      by_cases hb : b = 0
      · have HQ := Lib.hid (show onOf ⟨a, b, c, d, e, f, x⟩ = ⟨a, 1, c, d, e, f, x⟩ from (onOf_fwd hk).trans (by simp [ha, hb]))
        have hbb : (b == 0) = true := by simpa using hb
        clear hk hb ha
        go_enter Tryd.func87, Tryd.ntmps87
        go_wp2_with (go_at_call 99; go_must ((with_reducible refine (B _).mono ?_); rintro e w1 ⟨rfl, hb⟩; obtain ⟨hc, hf⟩ := bcell hb; have hz := hb.size; (try simp at hz); (try have hzT := Nat.lt_of_succ_le hz); have hzA : w.heap.size < w1.heap.size := (by omega); have hzB : w.heap.size + 1 < w1.heap.size := (by omega); have hzA2 := Nat.le_of_lt hzA; have hzB2 := Nat.le_of_lt hzB))
        obtain ⟨L1, L2, f1, f2⟩ := after2 hb; have k0 := L1 0 _ rfl; have k1 := L1 1 _ rfl; have k2 := L1 2 _ rfl; have k3 := L1 3 _ rfl; have k4 := L1 4 _ rfl; have k5 := L1 5 _ rfl; have k6 := L1 6 _ rfl; have k7 := L1 7 _ rfl; have k8 := L1 8 _ rfl; have k9 := L1 9 _ rfl; have k10 := L1 10 _ rfl; have k11 := L1 11 _ rfl; have m0 := L2 0 _ rfl; have m1 := L2 1 _ rfl; have m2 := L2 2 _ rfl; have m3 := L2 3 _ rfl; have m4 := L2 4 _ rfl; have m5 := L2 5 _ rfl; have m6 := L2 6 _ rfl; have m7 := L2 7 _ rfl; have m8 := L2 8 _ rfl; have m9 := L2 9 _ rfl; have m10 := L2 10 _ rfl; have m11 := L2 11 _ rfl; clear L1 L2 hc hf
        refine wp_loop_rounds 4 ?_
        rw [rounds_succ]
        go_wp2_with fail
        all_goals (try (rw [rounds_succ]; go_wp2_with fail))
        all_goals (try (rw [rounds_succ]; go_wp2_with fail))
        all_goals (try (rw [rounds_succ]; go_wp2_with fail))
        refine bodyPost_ret (v := sagaV o ⟨a, 1, c, d, e, f, x⟩) (by unfold sagaV; simp [results, Tryd.results87, go_sem, *]) rfl ⟨by rw [HQ.out], (by with_reducible (repeat (first | assumption | exact Below.refl _ _ | refine Below.drew ?_ | refine below_drewN ?_ _ | refine Below.alloc ?_ (by first | (simp; done) | omega | (simp; omega)) _ | refine Below.setCell ?_ (by first | (simp; done) | omega | (simp; omega)) _ | refine Below.trans ?_ (Below.mono (by assumption) (by first | (simp; done) | omega | (simp; omega))))))⟩
      · have hbb : (b == 0) = false := by simpa using hb
        by_cases hc : c = 0
        · have HQ := Lib.hid (show onOf ⟨a, b, c, d, e, f, x⟩ = ⟨a, b, 1, d, e, f, x⟩ from (onOf_fwd hk).trans (by simp [ha, hb, hc]))
          have hcb : (c == 0) = true := by simpa using hc
          clear hk hc ha hb
          go_enter Tryd.func87, Tryd.ntmps87
          go_wp2_with (go_at_call 99; go_must ((with_reducible refine (B _).mono ?_); rintro e w1 ⟨rfl, hb⟩; obtain ⟨hc, hf⟩ := bcell hb; have hz := hb.size; (try simp at hz); (try have hzT := Nat.lt_of_succ_le hz); have hzA : w.heap.size < w1.heap.size := (by omega); have hzB : w.heap.size + 1 < w1.heap.size := (by omega); have hzA2 := Nat.le_of_lt hzA; have hzB2 := Nat.le_of_lt hzB))
          obtain ⟨L1, L2, f1, f2⟩ := after2 hb; have k0 := L1 0 _ rfl; have k1 := L1 1 _ rfl; have k2 := L1 2 _ rfl; have k3 := L1 3 _ rfl; have k4 := L1 4 _ rfl; have k5 := L1 5 _ rfl; have k6 := L1 6 _ rfl; have k7 := L1 7 _ rfl; have k8 := L1 8 _ rfl; have k9 := L1 9 _ rfl; have k10 := L1 10 _ rfl; have k11 := L1 11 _ rfl; have m0 := L2 0 _ rfl; have m1 := L2 1 _ rfl; have m2 := L2 2 _ rfl; have m3 := L2 3 _ rfl; have m4 := L2 4 _ rfl; have m5 := L2 5 _ rfl; have m6 := L2 6 _ rfl; have m7 := L2 7 _ rfl; have m8 := L2 8 _ rfl; have m9 := L2 9 _ rfl; have m10 := L2 10 _ rfl; have m11 := L2 11 _ rfl; clear L1 L2 hc hf
          refine wp_loop_rounds 4 ?_
          rw [rounds_succ]
          go_wp2_with fail
          all_goals (try (rw [rounds_succ]; go_wp2_with fail))
          all_goals (try (rw [rounds_succ]; go_wp2_with fail))
          all_goals (try (rw [rounds_succ]; go_wp2_with fail))
          refine bodyPost_ret (v := sagaV o ⟨a, b, 1, d, e, f, x⟩) (by unfold sagaV; simp [results, Tryd.results87, go_sem, *]) rfl ⟨by rw [HQ.out], (by with_reducible (repeat (first | assumption | exact Below.refl _ _ | refine Below.drew ?_ | refine below_drewN ?_ _ | refine Below.alloc ?_ (by first | (simp; done) | omega | (simp; omega)) _ | refine Below.setCell ?_ (by first | (simp; done) | omega | (simp; omega)) _ | refine Below.trans ?_ (Below.mono (by assumption) (by first | (simp; done) | omega | (simp; omega))))))⟩
        · have hcb : (c == 0) = false := by simpa using hc
          have HQ := Lib.hid (show onOf ⟨a, b, c, d, e, f, x⟩ = ⟨a, b, c, d, e, f, x⟩ from (onOf_fwd hk).trans (by simp [ha, hb, hc]))
          clear hk ha hb hc
          go_enter Tryd.func87, Tryd.ntmps87
          go_wp2_with (go_at_call 99; go_must ((with_reducible refine (B _).mono ?_); rintro e w1 ⟨rfl, hb⟩; obtain ⟨hc, hf⟩ := bcell hb; have hz := hb.size; (try simp at hz); (try have hzT := Nat.lt_of_succ_le hz); have hzA : w.heap.size < w1.heap.size := (by omega); have hzB : w.heap.size + 1 < w1.heap.size := (by omega); have hzA2 := Nat.le_of_lt hzA; have hzB2 := Nat.le_of_lt hzB))
          obtain ⟨L1, L2, f1, f2⟩ := after2 hb; have k0 := L1 0 _ rfl; have k1 := L1 1 _ rfl; have k2 := L1 2 _ rfl; have k3 := L1 3 _ rfl; have k4 := L1 4 _ rfl; have k5 := L1 5 _ rfl; have k6 := L1 6 _ rfl; have k7 := L1 7 _ rfl; have k8 := L1 8 _ rfl; have k9 := L1 9 _ rfl; have k10 := L1 10 _ rfl; have k11 := L1 11 _ rfl; have m0 := L2 0 _ rfl; have m1 := L2 1 _ rfl; have m2 := L2 2 _ rfl; have m3 := L2 3 _ rfl; have m4 := L2 4 _ rfl; have m5 := L2 5 _ rfl; have m6 := L2 6 _ rfl; have m7 := L2 7 _ rfl; have m8 := L2 8 _ rfl; have m9 := L2 9 _ rfl; have m10 := L2 10 _ rfl; have m11 := L2 11 _ rfl; clear L1 L2 hc hf
          refine wp_loop_rounds 4 ?_
          rw [rounds_succ]
          go_wp2_with fail
          all_goals (try (rw [rounds_succ]; go_wp2_with fail))
          all_goals (try (rw [rounds_succ]; go_wp2_with fail))
          all_goals (try (rw [rounds_succ]; go_wp2_with fail))
          refine bodyPost_ret (v := sagaV o ⟨a, b, c, d, e, f, x⟩) (by unfold sagaV; simp [results, Tryd.results87, go_sem, *]) rfl ⟨by rw [HQ.out], (by with_reducible (repeat (first | assumption | exact Below.refl _ _ | refine Below.drew ?_ | refine below_drewN ?_ _ | refine Below.alloc ?_ (by first | (simp; done) | omega | (simp; omega)) _ | refine Below.setCell ?_ (by first | (simp; done) | omega | (simp; omega)) _ | refine Below.trans ?_ (Below.mono (by assumption) (by first | (simp; done) | omega | (simp; omega))))))⟩
  · rw [(show sagaV o ⟨a, b, c, d, e, f, x⟩ = .agg #[.int .i64 o.id, .string ⟨o.ref.toArray⟩, .string ⟨o.sku.toArray⟩, .int .i64 o.qty, .int .i64 o.amt, .int .i64 a, .int .i64 b, .int .i64 c, .int .i64 d, .int .i64 e, .int .i64 f, .bool x] from rfl), hk] at B
    rw [(show sagaV o ⟨a, b, c, d, e, f, x⟩ = .agg #[.int .i64 o.id, .string ⟨o.ref.toArray⟩, .string ⟨o.sku.toArray⟩, .int .i64 o.qty, .int .i64 o.amt, .int .i64 a, .int .i64 b, .int .i64 c, .int .i64 d, .int .i64 e, .int .i64 f, .bool x] from rfl)]
    have HK := Lib.hid hk
    clear hk
    go_enter Tryd.func87, Tryd.ntmps87
    go_wp2_with (go_at_call 99; go_must ((with_reducible refine (B _).mono ?_); rintro e w1 ⟨rfl, hb⟩; obtain ⟨hc, hf⟩ := bcell hb; have hz := hb.size; (try simp at hz); (try have hzT := Nat.lt_of_succ_le hz); have hzA : w.heap.size < w1.heap.size := (by omega); have hzB : w.heap.size + 1 < w1.heap.size := (by omega); have hzA2 := Nat.le_of_lt hzA; have hzB2 := Nat.le_of_lt hzB))
    obtain ⟨L1, L2, f1, f2⟩ := after2 hb; have k0 := L1 0 _ rfl; have k1 := L1 1 _ rfl; have k2 := L1 2 _ rfl; have k3 := L1 3 _ rfl; have k4 := L1 4 _ rfl; have k5 := L1 5 _ rfl; have k6 := L1 6 _ rfl; have k7 := L1 7 _ rfl; have k8 := L1 8 _ rfl; have k9 := L1 9 _ rfl; have k10 := L1 10 _ rfl; have k11 := L1 11 _ rfl; have m0 := L2 0 _ rfl; have m1 := L2 1 _ rfl; have m2 := L2 2 _ rfl; have m3 := L2 3 _ rfl; have m4 := L2 4 _ rfl; have m5 := L2 5 _ rfl; have m6 := L2 6 _ rfl; have m7 := L2 7 _ rfl; have m8 := L2 8 _ rfl; have m9 := L2 9 _ rfl; have m10 := L2 10 _ rfl; have m11 := L2 11 _ rfl; clear L1 L2 hc hf
    go_loop [4] (fun k => k = .int .i64 2 ∨ (k = .int .i64 1 ∧ ¬ ((c = 2 ∨ c = 4) ∧ f = 0)) ∨ (k = .int .i64 0 ∧ ¬ ((c = 2 ∨ c = 4) ∧ f = 0) ∧ ¬ ((b = 2 ∨ b = 4) ∧ e = 0)) ∨ (k = .int .i64 (-1) ∧ ¬ ((c = 2 ∨ c = 4) ∧ f = 0) ∧ ¬ ((b = 2 ∨ b = 4) ∧ e = 0) ∧ ¬ ((a = 2 ∨ a = 4) ∧ d = 0))) (fun k => (intOf k + 1).toNat)
    case atStart => exact .inl rfl
    case round =>
      rcases hrel with rfl | ⟨rfl, n2⟩ | ⟨rfl, n2, n1⟩ | ⟨rfl, n2, n1, n0⟩
      · by_cases hu : f = 0
        · by_cases h2 : c = 2
          · have HQ := Lib.hid (show onOf ⟨a, b, c, d, e, f, x⟩ = ⟨a, b, c, d, e, 1, x⟩ from (onOf_bwd HK.out).trans (by simp [hu, h2]))
            have hub : (f == 0) = true := by simpa using hu
            have h2b : (c == 2) = true := by simpa using h2
            clear hu h2
            go_wp2_with fail
            refine bodyPost_ret (v := sagaV o ⟨a, b, c, d, e, 1, x⟩) (by unfold sagaV; simp [results, Tryd.results87, go_sem, *]) rfl ⟨by rw [HQ.out], (by with_reducible (repeat (first | assumption | exact Below.refl _ _ | refine Below.drew ?_ | refine below_drewN ?_ _ | refine Below.alloc ?_ (by first | (simp; done) | omega | (simp; omega)) _ | refine Below.setCell ?_ (by first | (simp; done) | omega | (simp; omega)) _ | refine Below.trans ?_ (Below.mono (by assumption) (by first | (simp; done) | omega | (simp; omega))))))⟩
          · by_cases h4 : c = 4
            · have HQ := Lib.hid (show onOf ⟨a, b, c, d, e, f, x⟩ = ⟨a, b, c, d, e, 1, x⟩ from (onOf_bwd HK.out).trans (by simp [hu, h4]))
              have hub : (f == 0) = true := by simpa using hu
              have h2b : (c == 2) = false := by simpa using h2
              have h4b : (c == 4) = true := by simpa using h4
              clear hu h2 h4
              go_wp2_with fail
              refine bodyPost_ret (v := sagaV o ⟨a, b, c, d, e, 1, x⟩) (by unfold sagaV; simp [results, Tryd.results87, go_sem, *]) rfl ⟨by rw [HQ.out], (by with_reducible (repeat (first | assumption | exact Below.refl _ _ | refine Below.drew ?_ | refine below_drewN ?_ _ | refine Below.alloc ?_ (by first | (simp; done) | omega | (simp; omega)) _ | refine Below.setCell ?_ (by first | (simp; done) | omega | (simp; omega)) _ | refine Below.trans ?_ (Below.mono (by assumption) (by first | (simp; done) | omega | (simp; omega))))))⟩
            · have h2b : (c == 2) = false := by simpa using h2
              have h4b : (c == 4) = false := by simpa using h4
              have NN := Lib.hid (show ¬ ((c = 2 ∨ c = 4) ∧ f = 0) from fun h => h.1.elim h2 h4)
              clear hu h2 h4
              go_wp2_with fail
              go_round
              case rel => exact .inr (.inl ⟨rfl, NN.out⟩)
              case measure => simp [intOf] <;> omega
        · have NN := Lib.hid (show ¬ ((c = 2 ∨ c = 4) ∧ f = 0) from fun h => hu h.2)
          have hub : (f == 0) = false := by simpa using hu
          clear hu
          by_cases h2 : c = 2
          · have h2b : (c == 2) = true := by simpa using h2
            clear h2
            go_wp2_with fail
            go_round
            case rel => exact .inr (.inl ⟨rfl, NN.out⟩)
            case measure => simp [intOf] <;> omega
          · have h2b : (c == 2) = false := by simpa using h2
            clear h2
            by_cases h4 : c = 4
            · have h4b : (c == 4) = true := by simpa using h4
              clear h4
              go_wp2_with fail
              go_round
              case rel => exact .inr (.inl ⟨rfl, NN.out⟩)
              case measure => simp [intOf] <;> omega
            · have h4b : (c == 4) = false := by simpa using h4
              clear h4
              go_wp2_with fail
              go_round
              case rel => exact .inr (.inl ⟨rfl, NN.out⟩)
              case measure => simp [intOf] <;> omega
      · have N2 := Lib.hid n2
        clear n2
        by_cases hu : e = 0
        · by_cases h2 : b = 2
          · have HQ := Lib.hid (show onOf ⟨a, b, c, d, e, f, x⟩ = ⟨a, b, c, d, 1, f, x⟩ from (onOf_bwd HK.out).trans (by rw [if_neg N2.out]; simp [hu, h2]))
            have hub : (e == 0) = true := by simpa using hu
            have h2b : (b == 2) = true := by simpa using h2
            clear hu h2
            go_wp2_with fail
            refine bodyPost_ret (v := sagaV o ⟨a, b, c, d, 1, f, x⟩) (by unfold sagaV; simp [results, Tryd.results87, go_sem, *]) rfl ⟨by rw [HQ.out], (by with_reducible (repeat (first | assumption | exact Below.refl _ _ | refine Below.drew ?_ | refine below_drewN ?_ _ | refine Below.alloc ?_ (by first | (simp; done) | omega | (simp; omega)) _ | refine Below.setCell ?_ (by first | (simp; done) | omega | (simp; omega)) _ | refine Below.trans ?_ (Below.mono (by assumption) (by first | (simp; done) | omega | (simp; omega))))))⟩
          · by_cases h4 : b = 4
            · have HQ := Lib.hid (show onOf ⟨a, b, c, d, e, f, x⟩ = ⟨a, b, c, d, 1, f, x⟩ from (onOf_bwd HK.out).trans (by rw [if_neg N2.out]; simp [hu, h4]))
              have hub : (e == 0) = true := by simpa using hu
              have h2b : (b == 2) = false := by simpa using h2
              have h4b : (b == 4) = true := by simpa using h4
              clear hu h2 h4
              go_wp2_with fail
              refine bodyPost_ret (v := sagaV o ⟨a, b, c, d, 1, f, x⟩) (by unfold sagaV; simp [results, Tryd.results87, go_sem, *]) rfl ⟨by rw [HQ.out], (by with_reducible (repeat (first | assumption | exact Below.refl _ _ | refine Below.drew ?_ | refine below_drewN ?_ _ | refine Below.alloc ?_ (by first | (simp; done) | omega | (simp; omega)) _ | refine Below.setCell ?_ (by first | (simp; done) | omega | (simp; omega)) _ | refine Below.trans ?_ (Below.mono (by assumption) (by first | (simp; done) | omega | (simp; omega))))))⟩
            · have h2b : (b == 2) = false := by simpa using h2
              have h4b : (b == 4) = false := by simpa using h4
              have NN := Lib.hid (show ¬ ((b = 2 ∨ b = 4) ∧ e = 0) from fun h => h.1.elim h2 h4)
              clear hu h2 h4
              go_wp2_with fail
              go_round
              case rel => exact .inr (.inr (.inl ⟨rfl, N2.out, NN.out⟩))
              case measure => simp [intOf] <;> omega
        · have NN := Lib.hid (show ¬ ((b = 2 ∨ b = 4) ∧ e = 0) from fun h => hu h.2)
          have hub : (e == 0) = false := by simpa using hu
          clear hu
          by_cases h2 : b = 2
          · have h2b : (b == 2) = true := by simpa using h2
            clear h2
            go_wp2_with fail
            go_round
            case rel => exact .inr (.inr (.inl ⟨rfl, N2.out, NN.out⟩))
            case measure => simp [intOf] <;> omega
          · have h2b : (b == 2) = false := by simpa using h2
            clear h2
            by_cases h4 : b = 4
            · have h4b : (b == 4) = true := by simpa using h4
              clear h4
              go_wp2_with fail
              go_round
              case rel => exact .inr (.inr (.inl ⟨rfl, N2.out, NN.out⟩))
              case measure => simp [intOf] <;> omega
            · have h4b : (b == 4) = false := by simpa using h4
              clear h4
              go_wp2_with fail
              go_round
              case rel => exact .inr (.inr (.inl ⟨rfl, N2.out, NN.out⟩))
              case measure => simp [intOf] <;> omega
      · have N2 := Lib.hid n2
        clear n2
        have N1 := Lib.hid n1
        clear n1
        by_cases hu : d = 0
        · by_cases h2 : a = 2
          · have HQ := Lib.hid (show onOf ⟨a, b, c, d, e, f, x⟩ = ⟨a, b, c, 1, e, f, x⟩ from (onOf_bwd HK.out).trans (by rw [if_neg N2.out]; rw [if_neg N1.out]; simp [hu, h2]))
            have hub : (d == 0) = true := by simpa using hu
            have h2b : (a == 2) = true := by simpa using h2
            clear hu h2
            go_wp2_with fail
            refine bodyPost_ret (v := sagaV o ⟨a, b, c, 1, e, f, x⟩) (by unfold sagaV; simp [results, Tryd.results87, go_sem, *]) rfl ⟨by rw [HQ.out], (by with_reducible (repeat (first | assumption | exact Below.refl _ _ | refine Below.drew ?_ | refine below_drewN ?_ _ | refine Below.alloc ?_ (by first | (simp; done) | omega | (simp; omega)) _ | refine Below.setCell ?_ (by first | (simp; done) | omega | (simp; omega)) _ | refine Below.trans ?_ (Below.mono (by assumption) (by first | (simp; done) | omega | (simp; omega))))))⟩
          · by_cases h4 : a = 4
            · have HQ := Lib.hid (show onOf ⟨a, b, c, d, e, f, x⟩ = ⟨a, b, c, 1, e, f, x⟩ from (onOf_bwd HK.out).trans (by rw [if_neg N2.out]; rw [if_neg N1.out]; simp [hu, h4]))
              have hub : (d == 0) = true := by simpa using hu
              have h2b : (a == 2) = false := by simpa using h2
              have h4b : (a == 4) = true := by simpa using h4
              clear hu h2 h4
              go_wp2_with fail
              refine bodyPost_ret (v := sagaV o ⟨a, b, c, 1, e, f, x⟩) (by unfold sagaV; simp [results, Tryd.results87, go_sem, *]) rfl ⟨by rw [HQ.out], (by with_reducible (repeat (first | assumption | exact Below.refl _ _ | refine Below.drew ?_ | refine below_drewN ?_ _ | refine Below.alloc ?_ (by first | (simp; done) | omega | (simp; omega)) _ | refine Below.setCell ?_ (by first | (simp; done) | omega | (simp; omega)) _ | refine Below.trans ?_ (Below.mono (by assumption) (by first | (simp; done) | omega | (simp; omega))))))⟩
            · have h2b : (a == 2) = false := by simpa using h2
              have h4b : (a == 4) = false := by simpa using h4
              have NN := Lib.hid (show ¬ ((a = 2 ∨ a = 4) ∧ d = 0) from fun h => h.1.elim h2 h4)
              clear hu h2 h4
              go_wp2_with fail
              go_round
              case rel => exact .inr (.inr (.inr ⟨rfl, N2.out, N1.out, NN.out⟩))
              case measure => simp [intOf] <;> omega
        · have NN := Lib.hid (show ¬ ((a = 2 ∨ a = 4) ∧ d = 0) from fun h => hu h.2)
          have hub : (d == 0) = false := by simpa using hu
          clear hu
          by_cases h2 : a = 2
          · have h2b : (a == 2) = true := by simpa using h2
            clear h2
            go_wp2_with fail
            go_round
            case rel => exact .inr (.inr (.inr ⟨rfl, N2.out, N1.out, NN.out⟩))
            case measure => simp [intOf] <;> omega
          · have h2b : (a == 2) = false := by simpa using h2
            clear h2
            by_cases h4 : a = 4
            · have h4b : (a == 4) = true := by simpa using h4
              clear h4
              go_wp2_with fail
              go_round
              case rel => exact .inr (.inr (.inr ⟨rfl, N2.out, N1.out, NN.out⟩))
              case measure => simp [intOf] <;> omega
            · have h4b : (a == 4) = false := by simpa using h4
              clear h4
              go_wp2_with fail
              go_round
              case rel => exact .inr (.inr (.inr ⟨rfl, N2.out, N1.out, NN.out⟩))
              case measure => simp [intOf] <;> omega
      · have HQ := Lib.hid (show onOf ⟨a, b, c, d, e, f, x⟩ = ⟨a, b, c, d, e, f, x⟩ from (onOf_bwd HK.out).trans (by rw [if_neg n2, if_neg n1, if_neg n0]))
        clear n2 n1 n0
        go_wp2_with fail
        refine bodyPost_ret (v := sagaV o ⟨a, b, c, d, e, f, x⟩) (by unfold sagaV; simp [results, Tryd.results87, go_sem, *]) rfl ⟨by rw [HQ.out], (by with_reducible (repeat (first | assumption | exact Below.refl _ _ | refine Below.drew ?_ | refine below_drewN ?_ _ | refine Below.alloc ?_ (by first | (simp; done) | omega | (simp; omega)) _ | refine Below.setCell ?_ (by first | (simp; done) | omega | (simp; omega)) _ | refine Below.trans ?_ (Below.mono (by assumption) (by first | (simp; done) | omega | (simp; omega))))))⟩
end Go.Proofs.YtibabfedpdoofaaDoor
namespace Go.Proofs.YtibabfedpdoofaaDoor
open Go.RowKit Go.Own

set_option maxHeartbeats 2000000 in
set_option maxRecDepth 100000 in
theorem refSagaNet_any (o : OrdS) (s : D6) (w : World) : Calls Tryd.prog 89 #[sagaV o s] w fun e w' => e = .returned (.int .i64 (netS o s)) ∧ Below w.heap.size w w' := by
  obtain ⟨a, b, c, d, e, f, x⟩ := s
  rw [(show sagaV o ⟨a, b, c, d, e, f, x⟩ = .agg #[.int .i64 o.id, .string ⟨o.ref.toArray⟩, .string ⟨o.sku.toArray⟩, .int .i64 o.qty, .int .i64 o.amt, .int .i64 a, .int .i64 b, .int .i64 c, .int .i64 d, .int .i64 e, .int .i64 f, .bool x] from rfl)]
  by_cases h1 : b = 2
  · by_cases h2 : e = 2
    · have HQ := Lib.hid (show netS o ⟨a, b, c, d, e, f, x⟩ = 0 by simp [netS, h2])
      have h1b : (b == 2) = true := by simpa using h1
      have h2b : (e != 2) = false := by simpa using h2
      clear h1 h2
      go_enter Tryd.func89, Tryd.ntmps89
      go_wp2_with fail
      go_ret
      exact ⟨by rw [HQ.out]; rfl, (by with_reducible (repeat (first | assumption | exact Below.refl _ _ | refine Below.drew ?_ | refine below_drewN ?_ _ | refine Below.alloc ?_ (by first | (simp; done) | omega | (simp; omega)) _ | refine Below.setCell ?_ (by first | (simp; done) | omega | (simp; omega)) _ | refine Below.trans ?_ (Below.mono (by assumption) (by first | (simp; done) | omega | (simp; omega))))))⟩
    · have HQ := Lib.hid (show netS o ⟨a, b, c, d, e, f, x⟩ = o.amt by simp [netS, h1, h2])
      have h1b : (b == 2) = true := by simpa using h1
      have h2b : (e != 2) = true := by simpa using h2
      clear h1 h2
      go_enter Tryd.func89, Tryd.ntmps89
      go_wp2_with fail
      go_ret
      exact ⟨by rw [HQ.out]; rfl, (by with_reducible (repeat (first | assumption | exact Below.refl _ _ | refine Below.drew ?_ | refine below_drewN ?_ _ | refine Below.alloc ?_ (by first | (simp; done) | omega | (simp; omega)) _ | refine Below.setCell ?_ (by first | (simp; done) | omega | (simp; omega)) _ | refine Below.trans ?_ (Below.mono (by assumption) (by first | (simp; done) | omega | (simp; omega))))))⟩
  · have HQ := Lib.hid (show netS o ⟨a, b, c, d, e, f, x⟩ = 0 by simp [netS, h1])
    have h1b : (b == 2) = false := by simpa using h1
    clear h1
    go_enter Tryd.func89, Tryd.ntmps89
    go_wp2_with fail
    go_ret
    exact ⟨by rw [HQ.out]; rfl, (by with_reducible (repeat (first | assumption | exact Below.refl _ _ | refine Below.drew ?_ | refine below_drewN ?_ _ | refine Below.alloc ?_ (by first | (simp; done) | omega | (simp; omega)) _ | refine Below.setCell ?_ (by first | (simp; done) | omega | (simp; omega)) _ | refine Below.trans ?_ (Below.mono (by assumption) (by first | (simp; done) | omega | (simp; omega))))))⟩

set_option maxHeartbeats 2000000 in
theorem refBegin_any (o : OrdS) (w : World) : Calls Tryd.prog 70 #[ordV o] w fun e w' => e = .returned (sagaV o beginD) ∧ Below w.heap.size w w' := by
  rw [show ordV o = .agg #[.int .i64 o.id, .string ⟨o.ref.toArray⟩, .string ⟨o.sku.toArray⟩, .int .i64 o.qty, .int .i64 o.amt] from rfl]
  go_enter Tryd.func70, Tryd.ntmps70
  go_wp2_with fail
  refine bodyPost_ret (v := sagaV o beginD) (by unfold sagaV; simp [results, Tryd.results70, go_sem, beginD]) rfl ⟨rfl, (by with_reducible (repeat (first | assumption | exact Below.refl _ _ | refine Below.drew ?_ | refine below_drewN ?_ _ | refine Below.alloc ?_ (by first | (simp; done) | omega | (simp; omega)) _ | refine Below.setCell ?_ (by first | (simp; done) | omega | (simp; omega)) _ | refine Below.trans ?_ (Below.mono (by assumption) (by first | (simp; done) | omega | (simp; omega))))))⟩
end Go.Proofs.YtibabfedpdoofaaDoor
namespace Go.Proofs.YtibabfedpdoofaaDoor
open Go.RowKit Go.Own

set_option maxHeartbeats 8000000 in
set_option maxRecDepth 100000 in
theorem refReply_any (o : OrdS) (s : D6) (deed code : Int) (w : World) : Calls Tryd.prog 88 #[sagaV o s, .int .i64 deed, .int .i64 code] w fun e w' => e = .returned (replyV o (replyOf s deed code)) ∧ Below w.heap.size w w' := by
  have W := fun w => refWaits_any o s w
  have hcs := waitsOf_cases s
  obtain ⟨a, b, c, d, e, f, x⟩ := s
  rw [(show sagaV o ⟨a, b, c, d, e, f, x⟩ = .agg #[.int .i64 o.id, .string ⟨o.ref.toArray⟩, .string ⟨o.sku.toArray⟩, .int .i64 o.qty, .int .i64 o.amt, .int .i64 a, .int .i64 b, .int .i64 c, .int .i64 d, .int .i64 e, .int .i64 f, .bool x] from rfl)] at W ⊢
  generalize hw : waitsOf ⟨a, b, c, d, e, f, x⟩ = p at *
  obtain ⟨n, v⟩ := p
  simp only at W hcs
  rcases hcs with ⟨rfl, rfl⟩ | ⟨rfl, hcs⟩
  · have HQ := Lib.hid (show replyOf ⟨a, b, c, d, e, f, x⟩ deed code = none by simp [replyOf, hw])
    clear hw
    go_enter Tryd.func88, Tryd.ntmps88
    go_wp2_with (go_at_call 86; go_must ((with_reducible refine (W _).mono ?_); rintro e w1 ⟨rfl, hb⟩; obtain ⟨hc, hf⟩ := bcell hb; have hz := hb.size; (try simp at hz); (try have hzT := Nat.lt_of_succ_le hz); have hzA : w.heap.size < w1.heap.size := (by omega); have hzB : w.heap.size + 1 < w1.heap.size := (by omega); have hzA2 := Nat.le_of_lt hzA; have hzB2 := Nat.le_of_lt hzB; have hT := Two.of hb; obtain ⟨k0, k1, k2, k3, k4, k5, k6, k7, k8, k9, k10, k11⟩ := (hT).cells1; have f1 := (hT).f1; obtain ⟨m0, m1, m2, m3, m4, m5, m6, m7, m8, m9, m10, m11⟩ := (hT).cells2; have f2 := (hT).f2; clear hc hf; have HT := Lib.hid hT; clear hT))
    refine bodyPost_ret (v := .tuple #[noneV, .bool false]) (by unfold noneV; simp [results, Tryd.results88, go_sem, *]) rfl ⟨by rw [HQ.out]; rfl, (by with_reducible (repeat (first | assumption | exact Below.refl _ _ | refine Below.drew ?_ | refine below_drewN ?_ _ | refine Below.alloc ?_ (by first | (simp; done) | omega | (simp; omega)) _ | refine Below.setCell ?_ (by first | (simp; done) | omega | (simp; omega)) _ | refine Below.trans ?_ (Below.mono (by assumption) (by first | (simp; done) | omega | (simp; omega))))))⟩
  by_cases hd : n = deed
  rotate_left
  · have HQ := Lib.hid (show replyOf ⟨a, b, c, d, e, f, x⟩ deed code = none by simp [replyOf, hw, hd])
    have hdn : (n != deed) = true := by simpa using hd
    clear hd hw hcs
    go_enter Tryd.func88, Tryd.ntmps88
    go_wp2_with (go_at_call 86; go_must ((with_reducible refine (W _).mono ?_); rintro e w1 ⟨rfl, hb⟩; obtain ⟨hc, hf⟩ := bcell hb; have hz := hb.size; (try simp at hz); (try have hzT := Nat.lt_of_succ_le hz); have hzA : w.heap.size < w1.heap.size := (by omega); have hzB : w.heap.size + 1 < w1.heap.size := (by omega); have hzA2 := Nat.le_of_lt hzA; have hzB2 := Nat.le_of_lt hzB; have hT := Two.of hb; obtain ⟨k0, k1, k2, k3, k4, k5, k6, k7, k8, k9, k10, k11⟩ := (hT).cells1; have f1 := (hT).f1; obtain ⟨m0, m1, m2, m3, m4, m5, m6, m7, m8, m9, m10, m11⟩ := (hT).cells2; have f2 := (hT).f2; clear hc hf; have HT := Lib.hid hT; clear hT))
    refine bodyPost_ret (v := .tuple #[noneV, .bool false]) (by unfold noneV; simp [results, Tryd.results88, go_sem, *]) rfl ⟨by rw [HQ.out]; rfl, (by with_reducible (repeat (first | assumption | exact Below.refl _ _ | refine Below.drew ?_ | refine below_drewN ?_ _ | refine Below.alloc ?_ (by first | (simp; done) | omega | (simp; omega)) _ | refine Below.setCell ?_ (by first | (simp; done) | omega | (simp; omega)) _ | refine Below.trans ?_ (Below.mono (by assumption) (by first | (simp; done) | omega | (simp; omega))))))⟩
  subst hd
  by_cases h1 : code = 1
  · subst h1
    rcases hcs with rfl | rfl | rfl | rfl | rfl | rfl
    · have HQ := Lib.hid (show replyOf ⟨a, b, c, d, e, f, x⟩ 0 1 = some (onOf ⟨2, b, c, d, e, f, x⟩) by simp [replyOf, hw, setD])
      have On := fun w => refOn_any o ⟨2, b, c, d, e, f, x⟩ w
      generalize onOf ⟨2, b, c, d, e, f, x⟩ = z at *
      simp only [sagaV] at On
      clear hw
      go_enter Tryd.func88, Tryd.ntmps88
      go_wp2_with (go_at_call 86; go_must ((with_reducible refine (W _).mono ?_); rintro e w1 ⟨rfl, hb⟩; obtain ⟨hc, hf⟩ := bcell hb; have hz := hb.size; (try simp at hz); (try have hzT := Nat.lt_of_succ_le hz); have hzA : w.heap.size < w1.heap.size := (by omega); have hzB : w.heap.size + 1 < w1.heap.size := (by omega); have hzA2 := Nat.le_of_lt hzA; have hzB2 := Nat.le_of_lt hzB; have hT := Two.of hb; obtain ⟨k0, k1, k2, k3, k4, k5, k6, k7, k8, k9, k10, k11⟩ := (hT).cells1; have f1 := (hT).f1; obtain ⟨m0, m1, m2, m3, m4, m5, m6, m7, m8, m9, m10, m11⟩ := (hT).cells2; have f2 := (hT).f2; clear hc hf; have HT := Lib.hid hT; clear hT))
      go_wp2_with (go_at_call 87; go_must ((with_reducible refine (On _).mono ?_); rintro e w2 ⟨rfl, hb2⟩; clear k0 k1 k2 k3 k4 k5 k6 k7 k8 k9 k10 k11 f1; clear m0 m1 m2 m3 m4 m5 m6 m7 m8 m9 m10 m11 f2; have hT2 := (HT.out.set (k := 5) (by simp) (.int .i64 2)).below hb2; obtain ⟨m0, m1, m2, m3, m4, m5, m6, m7, m8, m9, m10, m11⟩ := (hT2).cells2; have f2 := (hT2).f2; have hW2 := Lib.hid (show Below w.heap.size w w2 from (Below.setCell (Below.trans (((Below.refl _ _).alloc (Nat.le_refl _) _).alloc (by simp) _) (hb.mono (by simp; omega))) (Nat.le_refl _) _).trans (hb2.mono (by simp; omega))); clear hT2 hb2 hb))
      refine bodyPost_ret (v := .tuple #[sagaV o z, .bool true]) (by unfold sagaV; simp [results, Tryd.results88, go_sem, *]) rfl ⟨by rw [HQ.out]; rfl, ?_⟩
      have hW2 := hW2.out
      (with_reducible repeat (first | assumption | refine Below.setCell ?_ (by first | exact Nat.le_refl _ | omega | (simp; done) | (simp; omega)) _))
    · have HQ := Lib.hid (show replyOf ⟨a, b, c, d, e, f, x⟩ 1 1 = some (onOf ⟨a, 2, c, d, e, f, x⟩) by simp [replyOf, hw, setD])
      have On := fun w => refOn_any o ⟨a, 2, c, d, e, f, x⟩ w
      generalize onOf ⟨a, 2, c, d, e, f, x⟩ = z at *
      simp only [sagaV] at On
      clear hw
      go_enter Tryd.func88, Tryd.ntmps88
      go_wp2_with (go_at_call 86; go_must ((with_reducible refine (W _).mono ?_); rintro e w1 ⟨rfl, hb⟩; obtain ⟨hc, hf⟩ := bcell hb; have hz := hb.size; (try simp at hz); (try have hzT := Nat.lt_of_succ_le hz); have hzA : w.heap.size < w1.heap.size := (by omega); have hzB : w.heap.size + 1 < w1.heap.size := (by omega); have hzA2 := Nat.le_of_lt hzA; have hzB2 := Nat.le_of_lt hzB; have hT := Two.of hb; obtain ⟨k0, k1, k2, k3, k4, k5, k6, k7, k8, k9, k10, k11⟩ := (hT).cells1; have f1 := (hT).f1; obtain ⟨m0, m1, m2, m3, m4, m5, m6, m7, m8, m9, m10, m11⟩ := (hT).cells2; have f2 := (hT).f2; clear hc hf; have HT := Lib.hid hT; clear hT))
      go_wp2_with (go_at_call 87; go_must ((with_reducible refine (On _).mono ?_); rintro e w2 ⟨rfl, hb2⟩; clear k0 k1 k2 k3 k4 k5 k6 k7 k8 k9 k10 k11 f1; clear m0 m1 m2 m3 m4 m5 m6 m7 m8 m9 m10 m11 f2; have hT2 := (HT.out.set (k := 6) (by simp) (.int .i64 2)).below hb2; obtain ⟨m0, m1, m2, m3, m4, m5, m6, m7, m8, m9, m10, m11⟩ := (hT2).cells2; have f2 := (hT2).f2; have hW2 := Lib.hid (show Below w.heap.size w w2 from (Below.setCell (Below.trans (((Below.refl _ _).alloc (Nat.le_refl _) _).alloc (by simp) _) (hb.mono (by simp; omega))) (Nat.le_refl _) _).trans (hb2.mono (by simp; omega))); clear hT2 hb2 hb))
      refine bodyPost_ret (v := .tuple #[sagaV o z, .bool true]) (by unfold sagaV; simp [results, Tryd.results88, go_sem, *]) rfl ⟨by rw [HQ.out]; rfl, ?_⟩
      have hW2 := hW2.out
      (with_reducible repeat (first | assumption | refine Below.setCell ?_ (by first | exact Nat.le_refl _ | omega | (simp; done) | (simp; omega)) _))
    · have HQ := Lib.hid (show replyOf ⟨a, b, c, d, e, f, x⟩ 2 1 = some (onOf ⟨a, b, 2, d, e, f, x⟩) by simp [replyOf, hw, setD])
      have On := fun w => refOn_any o ⟨a, b, 2, d, e, f, x⟩ w
      generalize onOf ⟨a, b, 2, d, e, f, x⟩ = z at *
      simp only [sagaV] at On
      clear hw
      go_enter Tryd.func88, Tryd.ntmps88
      go_wp2_with (go_at_call 86; go_must ((with_reducible refine (W _).mono ?_); rintro e w1 ⟨rfl, hb⟩; obtain ⟨hc, hf⟩ := bcell hb; have hz := hb.size; (try simp at hz); (try have hzT := Nat.lt_of_succ_le hz); have hzA : w.heap.size < w1.heap.size := (by omega); have hzB : w.heap.size + 1 < w1.heap.size := (by omega); have hzA2 := Nat.le_of_lt hzA; have hzB2 := Nat.le_of_lt hzB; have hT := Two.of hb; obtain ⟨k0, k1, k2, k3, k4, k5, k6, k7, k8, k9, k10, k11⟩ := (hT).cells1; have f1 := (hT).f1; obtain ⟨m0, m1, m2, m3, m4, m5, m6, m7, m8, m9, m10, m11⟩ := (hT).cells2; have f2 := (hT).f2; clear hc hf; have HT := Lib.hid hT; clear hT))
      go_wp2_with (go_at_call 87; go_must ((with_reducible refine (On _).mono ?_); rintro e w2 ⟨rfl, hb2⟩; clear k0 k1 k2 k3 k4 k5 k6 k7 k8 k9 k10 k11 f1; clear m0 m1 m2 m3 m4 m5 m6 m7 m8 m9 m10 m11 f2; have hT2 := (HT.out.set (k := 7) (by simp) (.int .i64 2)).below hb2; obtain ⟨m0, m1, m2, m3, m4, m5, m6, m7, m8, m9, m10, m11⟩ := (hT2).cells2; have f2 := (hT2).f2; have hW2 := Lib.hid (show Below w.heap.size w w2 from (Below.setCell (Below.trans (((Below.refl _ _).alloc (Nat.le_refl _) _).alloc (by simp) _) (hb.mono (by simp; omega))) (Nat.le_refl _) _).trans (hb2.mono (by simp; omega))); clear hT2 hb2 hb))
      refine bodyPost_ret (v := .tuple #[sagaV o z, .bool true]) (by unfold sagaV; simp [results, Tryd.results88, go_sem, *]) rfl ⟨by rw [HQ.out]; rfl, ?_⟩
      have hW2 := hW2.out
      (with_reducible repeat (first | assumption | refine Below.setCell ?_ (by first | exact Nat.le_refl _ | omega | (simp; done) | (simp; omega)) _))
    · have HQ := Lib.hid (show replyOf ⟨a, b, c, d, e, f, x⟩ 3 1 = some (onOf ⟨a, b, c, 2, e, f, x⟩) by simp [replyOf, hw, setD])
      have On := fun w => refOn_any o ⟨a, b, c, 2, e, f, x⟩ w
      generalize onOf ⟨a, b, c, 2, e, f, x⟩ = z at *
      simp only [sagaV] at On
      clear hw
      go_enter Tryd.func88, Tryd.ntmps88
      go_wp2_with (go_at_call 86; go_must ((with_reducible refine (W _).mono ?_); rintro e w1 ⟨rfl, hb⟩; obtain ⟨hc, hf⟩ := bcell hb; have hz := hb.size; (try simp at hz); (try have hzT := Nat.lt_of_succ_le hz); have hzA : w.heap.size < w1.heap.size := (by omega); have hzB : w.heap.size + 1 < w1.heap.size := (by omega); have hzA2 := Nat.le_of_lt hzA; have hzB2 := Nat.le_of_lt hzB; have hT := Two.of hb; obtain ⟨k0, k1, k2, k3, k4, k5, k6, k7, k8, k9, k10, k11⟩ := (hT).cells1; have f1 := (hT).f1; obtain ⟨m0, m1, m2, m3, m4, m5, m6, m7, m8, m9, m10, m11⟩ := (hT).cells2; have f2 := (hT).f2; clear hc hf; have HT := Lib.hid hT; clear hT))
      go_wp2_with (go_at_call 87; go_must ((with_reducible refine (On _).mono ?_); rintro e w2 ⟨rfl, hb2⟩; clear k0 k1 k2 k3 k4 k5 k6 k7 k8 k9 k10 k11 f1; clear m0 m1 m2 m3 m4 m5 m6 m7 m8 m9 m10 m11 f2; have hT2 := (HT.out.set (k := 8) (by simp) (.int .i64 2)).below hb2; obtain ⟨m0, m1, m2, m3, m4, m5, m6, m7, m8, m9, m10, m11⟩ := (hT2).cells2; have f2 := (hT2).f2; have hW2 := Lib.hid (show Below w.heap.size w w2 from (Below.setCell (Below.trans (((Below.refl _ _).alloc (Nat.le_refl _) _).alloc (by simp) _) (hb.mono (by simp; omega))) (Nat.le_refl _) _).trans (hb2.mono (by simp; omega))); clear hT2 hb2 hb))
      refine bodyPost_ret (v := .tuple #[sagaV o z, .bool true]) (by unfold sagaV; simp [results, Tryd.results88, go_sem, *]) rfl ⟨by rw [HQ.out]; rfl, ?_⟩
      have hW2 := hW2.out
      (with_reducible repeat (first | assumption | refine Below.setCell ?_ (by first | exact Nat.le_refl _ | omega | (simp; done) | (simp; omega)) _))
    · have HQ := Lib.hid (show replyOf ⟨a, b, c, d, e, f, x⟩ 4 1 = some (onOf ⟨a, b, c, d, 2, f, x⟩) by simp [replyOf, hw, setD])
      have On := fun w => refOn_any o ⟨a, b, c, d, 2, f, x⟩ w
      generalize onOf ⟨a, b, c, d, 2, f, x⟩ = z at *
      simp only [sagaV] at On
      clear hw
      go_enter Tryd.func88, Tryd.ntmps88
      go_wp2_with (go_at_call 86; go_must ((with_reducible refine (W _).mono ?_); rintro e w1 ⟨rfl, hb⟩; obtain ⟨hc, hf⟩ := bcell hb; have hz := hb.size; (try simp at hz); (try have hzT := Nat.lt_of_succ_le hz); have hzA : w.heap.size < w1.heap.size := (by omega); have hzB : w.heap.size + 1 < w1.heap.size := (by omega); have hzA2 := Nat.le_of_lt hzA; have hzB2 := Nat.le_of_lt hzB; have hT := Two.of hb; obtain ⟨k0, k1, k2, k3, k4, k5, k6, k7, k8, k9, k10, k11⟩ := (hT).cells1; have f1 := (hT).f1; obtain ⟨m0, m1, m2, m3, m4, m5, m6, m7, m8, m9, m10, m11⟩ := (hT).cells2; have f2 := (hT).f2; clear hc hf; have HT := Lib.hid hT; clear hT))
      go_wp2_with (go_at_call 87; go_must ((with_reducible refine (On _).mono ?_); rintro e w2 ⟨rfl, hb2⟩; clear k0 k1 k2 k3 k4 k5 k6 k7 k8 k9 k10 k11 f1; clear m0 m1 m2 m3 m4 m5 m6 m7 m8 m9 m10 m11 f2; have hT2 := (HT.out.set (k := 9) (by simp) (.int .i64 2)).below hb2; obtain ⟨m0, m1, m2, m3, m4, m5, m6, m7, m8, m9, m10, m11⟩ := (hT2).cells2; have f2 := (hT2).f2; have hW2 := Lib.hid (show Below w.heap.size w w2 from (Below.setCell (Below.trans (((Below.refl _ _).alloc (Nat.le_refl _) _).alloc (by simp) _) (hb.mono (by simp; omega))) (Nat.le_refl _) _).trans (hb2.mono (by simp; omega))); clear hT2 hb2 hb))
      refine bodyPost_ret (v := .tuple #[sagaV o z, .bool true]) (by unfold sagaV; simp [results, Tryd.results88, go_sem, *]) rfl ⟨by rw [HQ.out]; rfl, ?_⟩
      have hW2 := hW2.out
      (with_reducible repeat (first | assumption | refine Below.setCell ?_ (by first | exact Nat.le_refl _ | omega | (simp; done) | (simp; omega)) _))
    · have HQ := Lib.hid (show replyOf ⟨a, b, c, d, e, f, x⟩ 5 1 = some (onOf ⟨a, b, c, d, e, 2, x⟩) by simp [replyOf, hw, setD])
      have On := fun w => refOn_any o ⟨a, b, c, d, e, 2, x⟩ w
      generalize onOf ⟨a, b, c, d, e, 2, x⟩ = z at *
      simp only [sagaV] at On
      clear hw
      go_enter Tryd.func88, Tryd.ntmps88
      go_wp2_with (go_at_call 86; go_must ((with_reducible refine (W _).mono ?_); rintro e w1 ⟨rfl, hb⟩; obtain ⟨hc, hf⟩ := bcell hb; have hz := hb.size; (try simp at hz); (try have hzT := Nat.lt_of_succ_le hz); have hzA : w.heap.size < w1.heap.size := (by omega); have hzB : w.heap.size + 1 < w1.heap.size := (by omega); have hzA2 := Nat.le_of_lt hzA; have hzB2 := Nat.le_of_lt hzB; have hT := Two.of hb; obtain ⟨k0, k1, k2, k3, k4, k5, k6, k7, k8, k9, k10, k11⟩ := (hT).cells1; have f1 := (hT).f1; obtain ⟨m0, m1, m2, m3, m4, m5, m6, m7, m8, m9, m10, m11⟩ := (hT).cells2; have f2 := (hT).f2; clear hc hf; have HT := Lib.hid hT; clear hT))
      go_wp2_with (go_at_call 87; go_must ((with_reducible refine (On _).mono ?_); rintro e w2 ⟨rfl, hb2⟩; clear k0 k1 k2 k3 k4 k5 k6 k7 k8 k9 k10 k11 f1; clear m0 m1 m2 m3 m4 m5 m6 m7 m8 m9 m10 m11 f2; have hT2 := (HT.out.set (k := 10) (by simp) (.int .i64 2)).below hb2; obtain ⟨m0, m1, m2, m3, m4, m5, m6, m7, m8, m9, m10, m11⟩ := (hT2).cells2; have f2 := (hT2).f2; have hW2 := Lib.hid (show Below w.heap.size w w2 from (Below.setCell (Below.trans (((Below.refl _ _).alloc (Nat.le_refl _) _).alloc (by simp) _) (hb.mono (by simp; omega))) (Nat.le_refl _) _).trans (hb2.mono (by simp; omega))); clear hT2 hb2 hb))
      refine bodyPost_ret (v := .tuple #[sagaV o z, .bool true]) (by unfold sagaV; simp [results, Tryd.results88, go_sem, *]) rfl ⟨by rw [HQ.out]; rfl, ?_⟩
      have hW2 := hW2.out
      (with_reducible repeat (first | assumption | refine Below.setCell ?_ (by first | exact Nat.le_refl _ | omega | (simp; done) | (simp; omega)) _))
  by_cases h2 : code = 2
  rotate_left
  · have HQ := Lib.hid (show replyOf ⟨a, b, c, d, e, f, x⟩ n code = none by simp [replyOf, hw, h1, h2])
    have h1n : (code != 1) = true := by simpa using h1
    have h2n : (code != 2) = true := by simpa using h2
    have h1e : (code == 1) = false := by simpa using h1
    have h2e : (code == 2) = false := by simpa using h2
    clear h1 h2 hw hcs
    go_enter Tryd.func88, Tryd.ntmps88
    go_wp2_with (go_at_call 86; go_must ((with_reducible refine (W _).mono ?_); rintro e w1 ⟨rfl, hb⟩; obtain ⟨hc, hf⟩ := bcell hb; have hz := hb.size; (try simp at hz); (try have hzT := Nat.lt_of_succ_le hz); have hzA : w.heap.size < w1.heap.size := (by omega); have hzB : w.heap.size + 1 < w1.heap.size := (by omega); have hzA2 := Nat.le_of_lt hzA; have hzB2 := Nat.le_of_lt hzB; have hT := Two.of hb; obtain ⟨k0, k1, k2, k3, k4, k5, k6, k7, k8, k9, k10, k11⟩ := (hT).cells1; have f1 := (hT).f1; obtain ⟨m0, m1, m2, m3, m4, m5, m6, m7, m8, m9, m10, m11⟩ := (hT).cells2; have f2 := (hT).f2; clear hc hf; have HT := Lib.hid hT; clear hT))
    refine bodyPost_ret (v := .tuple #[noneV, .bool false]) (by unfold noneV; simp [results, Tryd.results88, go_sem, *]) rfl ⟨by rw [HQ.out]; rfl, (by with_reducible (repeat (first | assumption | exact Below.refl _ _ | refine Below.drew ?_ | refine below_drewN ?_ _ | refine Below.alloc ?_ (by first | (simp; done) | omega | (simp; omega)) _ | refine Below.setCell ?_ (by first | (simp; done) | omega | (simp; omega)) _ | refine Below.trans ?_ (Below.mono (by assumption) (by first | (simp; done) | omega | (simp; omega))))))⟩
  subst h2
  by_cases h3 : n ≤ 2
  rotate_left
  · have HQ := Lib.hid (show replyOf ⟨a, b, c, d, e, f, x⟩ n 2 = none by simp [replyOf, hw, h3])
    have h3n : 2 < n := by omega
    clear h3 hw hcs h1
    go_enter Tryd.func88, Tryd.ntmps88
    go_wp2_with (go_at_call 86; go_must ((with_reducible refine (W _).mono ?_); rintro e w1 ⟨rfl, hb⟩; obtain ⟨hc, hf⟩ := bcell hb; have hz := hb.size; (try simp at hz); (try have hzT := Nat.lt_of_succ_le hz); have hzA : w.heap.size < w1.heap.size := (by omega); have hzB : w.heap.size + 1 < w1.heap.size := (by omega); have hzA2 := Nat.le_of_lt hzA; have hzB2 := Nat.le_of_lt hzB; have hT := Two.of hb; obtain ⟨k0, k1, k2, k3, k4, k5, k6, k7, k8, k9, k10, k11⟩ := (hT).cells1; have f1 := (hT).f1; obtain ⟨m0, m1, m2, m3, m4, m5, m6, m7, m8, m9, m10, m11⟩ := (hT).cells2; have f2 := (hT).f2; clear hc hf; have HT := Lib.hid hT; clear hT))
    refine bodyPost_ret (v := .tuple #[noneV, .bool false]) (by unfold noneV; simp [results, Tryd.results88, go_sem, *]) rfl ⟨by rw [HQ.out]; rfl, (by with_reducible (repeat (first | assumption | exact Below.refl _ _ | refine Below.drew ?_ | refine below_drewN ?_ _ | refine Below.alloc ?_ (by first | (simp; done) | omega | (simp; omega)) _ | refine Below.setCell ?_ (by first | (simp; done) | omega | (simp; omega)) _ | refine Below.trans ?_ (Below.mono (by assumption) (by first | (simp; done) | omega | (simp; omega))))))⟩
  clear h1
  rcases hcs with rfl | rfl | rfl | rfl | rfl | rfl
  · have HQ := Lib.hid (show replyOf ⟨a, b, c, d, e, f, x⟩ 0 2 = some (onOf ⟨3, b, c, d, e, f, x⟩) by simp [replyOf, hw, setD])
    have On := fun w => refOn_any o ⟨3, b, c, d, e, f, x⟩ w
    generalize onOf ⟨3, b, c, d, e, f, x⟩ = z at *
    simp only [sagaV] at On
    clear hw
    go_enter Tryd.func88, Tryd.ntmps88
    go_wp2_with (go_at_call 86; go_must ((with_reducible refine (W _).mono ?_); rintro e w1 ⟨rfl, hb⟩; obtain ⟨hc, hf⟩ := bcell hb; have hz := hb.size; (try simp at hz); (try have hzT := Nat.lt_of_succ_le hz); have hzA : w.heap.size < w1.heap.size := (by omega); have hzB : w.heap.size + 1 < w1.heap.size := (by omega); have hzA2 := Nat.le_of_lt hzA; have hzB2 := Nat.le_of_lt hzB; have hT := Two.of hb; obtain ⟨k0, k1, k2, k3, k4, k5, k6, k7, k8, k9, k10, k11⟩ := (hT).cells1; have f1 := (hT).f1; obtain ⟨m0, m1, m2, m3, m4, m5, m6, m7, m8, m9, m10, m11⟩ := (hT).cells2; have f2 := (hT).f2; clear hc hf; have HT := Lib.hid hT; clear hT))
    go_wp2_with (go_at_call 87; go_must ((with_reducible refine (On _).mono ?_); rintro e w2 ⟨rfl, hb2⟩; clear k0 k1 k2 k3 k4 k5 k6 k7 k8 k9 k10 k11 f1; clear m0 m1 m2 m3 m4 m5 m6 m7 m8 m9 m10 m11 f2; have hT2 := (HT.out.set (k := 5) (by simp) (.int .i64 3)).below hb2; obtain ⟨m0, m1, m2, m3, m4, m5, m6, m7, m8, m9, m10, m11⟩ := (hT2).cells2; have f2 := (hT2).f2; have hW2 := Lib.hid (show Below w.heap.size w w2 from (Below.setCell (Below.trans (((Below.refl _ _).alloc (Nat.le_refl _) _).alloc (by simp) _) (hb.mono (by simp; omega))) (Nat.le_refl _) _).trans (hb2.mono (by simp; omega))); clear hT2 hb2 hb))
    refine bodyPost_ret (v := .tuple #[sagaV o z, .bool true]) (by unfold sagaV; simp [results, Tryd.results88, go_sem, *]) rfl ⟨by rw [HQ.out]; rfl, ?_⟩
    have hW2 := hW2.out
    (with_reducible repeat (first | assumption | refine Below.setCell ?_ (by first | exact Nat.le_refl _ | omega | (simp; done) | (simp; omega)) _))
  · have HQ := Lib.hid (show replyOf ⟨a, b, c, d, e, f, x⟩ 1 2 = some (onOf ⟨a, 3, c, d, e, f, x⟩) by simp [replyOf, hw, setD])
    have On := fun w => refOn_any o ⟨a, 3, c, d, e, f, x⟩ w
    generalize onOf ⟨a, 3, c, d, e, f, x⟩ = z at *
    simp only [sagaV] at On
    clear hw
    go_enter Tryd.func88, Tryd.ntmps88
    go_wp2_with (go_at_call 86; go_must ((with_reducible refine (W _).mono ?_); rintro e w1 ⟨rfl, hb⟩; obtain ⟨hc, hf⟩ := bcell hb; have hz := hb.size; (try simp at hz); (try have hzT := Nat.lt_of_succ_le hz); have hzA : w.heap.size < w1.heap.size := (by omega); have hzB : w.heap.size + 1 < w1.heap.size := (by omega); have hzA2 := Nat.le_of_lt hzA; have hzB2 := Nat.le_of_lt hzB; have hT := Two.of hb; obtain ⟨k0, k1, k2, k3, k4, k5, k6, k7, k8, k9, k10, k11⟩ := (hT).cells1; have f1 := (hT).f1; obtain ⟨m0, m1, m2, m3, m4, m5, m6, m7, m8, m9, m10, m11⟩ := (hT).cells2; have f2 := (hT).f2; clear hc hf; have HT := Lib.hid hT; clear hT))
    go_wp2_with (go_at_call 87; go_must ((with_reducible refine (On _).mono ?_); rintro e w2 ⟨rfl, hb2⟩; clear k0 k1 k2 k3 k4 k5 k6 k7 k8 k9 k10 k11 f1; clear m0 m1 m2 m3 m4 m5 m6 m7 m8 m9 m10 m11 f2; have hT2 := (HT.out.set (k := 6) (by simp) (.int .i64 3)).below hb2; obtain ⟨m0, m1, m2, m3, m4, m5, m6, m7, m8, m9, m10, m11⟩ := (hT2).cells2; have f2 := (hT2).f2; have hW2 := Lib.hid (show Below w.heap.size w w2 from (Below.setCell (Below.trans (((Below.refl _ _).alloc (Nat.le_refl _) _).alloc (by simp) _) (hb.mono (by simp; omega))) (Nat.le_refl _) _).trans (hb2.mono (by simp; omega))); clear hT2 hb2 hb))
    refine bodyPost_ret (v := .tuple #[sagaV o z, .bool true]) (by unfold sagaV; simp [results, Tryd.results88, go_sem, *]) rfl ⟨by rw [HQ.out]; rfl, ?_⟩
    have hW2 := hW2.out
    (with_reducible repeat (first | assumption | refine Below.setCell ?_ (by first | exact Nat.le_refl _ | omega | (simp; done) | (simp; omega)) _))
  · have HQ := Lib.hid (show replyOf ⟨a, b, c, d, e, f, x⟩ 2 2 = some (onOf ⟨a, b, 3, d, e, f, x⟩) by simp [replyOf, hw, setD])
    have On := fun w => refOn_any o ⟨a, b, 3, d, e, f, x⟩ w
    generalize onOf ⟨a, b, 3, d, e, f, x⟩ = z at *
    simp only [sagaV] at On
    clear hw
    go_enter Tryd.func88, Tryd.ntmps88
    go_wp2_with (go_at_call 86; go_must ((with_reducible refine (W _).mono ?_); rintro e w1 ⟨rfl, hb⟩; obtain ⟨hc, hf⟩ := bcell hb; have hz := hb.size; (try simp at hz); (try have hzT := Nat.lt_of_succ_le hz); have hzA : w.heap.size < w1.heap.size := (by omega); have hzB : w.heap.size + 1 < w1.heap.size := (by omega); have hzA2 := Nat.le_of_lt hzA; have hzB2 := Nat.le_of_lt hzB; have hT := Two.of hb; obtain ⟨k0, k1, k2, k3, k4, k5, k6, k7, k8, k9, k10, k11⟩ := (hT).cells1; have f1 := (hT).f1; obtain ⟨m0, m1, m2, m3, m4, m5, m6, m7, m8, m9, m10, m11⟩ := (hT).cells2; have f2 := (hT).f2; clear hc hf; have HT := Lib.hid hT; clear hT))
    go_wp2_with (go_at_call 87; go_must ((with_reducible refine (On _).mono ?_); rintro e w2 ⟨rfl, hb2⟩; clear k0 k1 k2 k3 k4 k5 k6 k7 k8 k9 k10 k11 f1; clear m0 m1 m2 m3 m4 m5 m6 m7 m8 m9 m10 m11 f2; have hT2 := (HT.out.set (k := 7) (by simp) (.int .i64 3)).below hb2; obtain ⟨m0, m1, m2, m3, m4, m5, m6, m7, m8, m9, m10, m11⟩ := (hT2).cells2; have f2 := (hT2).f2; have hW2 := Lib.hid (show Below w.heap.size w w2 from (Below.setCell (Below.trans (((Below.refl _ _).alloc (Nat.le_refl _) _).alloc (by simp) _) (hb.mono (by simp; omega))) (Nat.le_refl _) _).trans (hb2.mono (by simp; omega))); clear hT2 hb2 hb))
    refine bodyPost_ret (v := .tuple #[sagaV o z, .bool true]) (by unfold sagaV; simp [results, Tryd.results88, go_sem, *]) rfl ⟨by rw [HQ.out]; rfl, ?_⟩
    have hW2 := hW2.out
    (with_reducible repeat (first | assumption | refine Below.setCell ?_ (by first | exact Nat.le_refl _ | omega | (simp; done) | (simp; omega)) _))
  · omega
  · omega
  · omega
end Go.Proofs.YtibabfedpdoofaaDoor
namespace Go.Proofs.YtibabfedpdoofaaDoor
open Go.RowKit Go.Own

set_option maxHeartbeats 8000000 in
set_option maxRecDepth 100000 in
theorem refStop_any (o : OrdS) (s : D6) (w : World) : Calls Tryd.prog 71 #[sagaV o s] w fun e w' => e = .returned (stopV o (stopOf s)) ∧ Below w.heap.size w w' := by
  have S := fun w => refState_any o s w
  have W := fun w => refWaits_any o s w
  have hcs := waitsOf_cases s
  have hgo := stateOf_go s
  obtain ⟨a, b, c, d, e, f, x⟩ := s
  rw [(show sagaV o ⟨a, b, c, d, e, f, x⟩ = .agg #[.int .i64 o.id, .string ⟨o.ref.toArray⟩, .string ⟨o.sku.toArray⟩, .int .i64 o.qty, .int .i64 o.amt, .int .i64 a, .int .i64 b, .int .i64 c, .int .i64 d, .int .i64 e, .int .i64 f, .bool x] from rfl)] at S W ⊢
  by_cases hs : stateOf ⟨a, b, c, d, e, f, x⟩ = 0
  rotate_left
  · have HQ := Lib.hid (show stopOf ⟨a, b, c, d, e, f, x⟩ = none by simp [stopOf, hs])
    clear hcs hgo W
    generalize stateOf ⟨a, b, c, d, e, f, x⟩ = q at *
    have hsn : (q != 0) = true := by simpa using hs
    clear hs
    go_enter Tryd.func71, Tryd.ntmps71
    go_wp2_with (go_at_call 85; go_must ((with_reducible refine (S _).mono ?_); rintro e w1 ⟨rfl, hb⟩; obtain ⟨hc, hf⟩ := bcell hb; have hz := hb.size; (try simp at hz); (try have hzT := Nat.lt_of_succ_le hz); have hzA : w.heap.size < w1.heap.size := (by omega); have hzB : w.heap.size + 1 < w1.heap.size := (by omega); have hzA2 := Nat.le_of_lt hzA; have hzB2 := Nat.le_of_lt hzB; have hT := Two.of hb; obtain ⟨k0, k1, k2, k3, k4, k5, k6, k7, k8, k9, k10, k11⟩ := (hT).cells1; have f1 := (hT).f1; obtain ⟨m0, m1, m2, m3, m4, m5, m6, m7, m8, m9, m10, m11⟩ := (hT).cells2; have f2 := (hT).f2; clear hc hf hT))
    refine bodyPost_ret (v := .tuple #[noneV, .int .i64 92]) (by unfold noneV; simp [results, Tryd.results71, go_sem, *]) rfl ⟨by rw [HQ.out]; rfl, (by with_reducible (repeat (first | assumption | exact Below.refl _ _ | refine Below.drew ?_ | refine below_drewN ?_ _ | refine Below.alloc ?_ (by first | (simp; done) | omega | (simp; omega)) _ | refine Below.setCell ?_ (by first | (simp; done) | omega | (simp; omega)) _ | refine Below.trans ?_ (Below.mono (by assumption) (by first | (simp; done) | omega | (simp; omega))))))⟩
  have hv := hgo hs
  clear hgo
  have HS := Lib.hid hs
  rw [hs] at S
  clear hs
  generalize hw : waitsOf ⟨a, b, c, d, e, f, x⟩ = p at *
  obtain ⟨n, v⟩ := p
  simp only at W hcs hv
  subst hv
  rcases hcs with ⟨h0, _⟩ | ⟨_, hcs⟩
  · cases h0
  rcases hcs with rfl | rfl | rfl | rfl | rfl | rfl
  · have HQ := Lib.hid (show stopOf ⟨a, b, c, d, e, f, x⟩ = some (onOf ⟨4, b, c, d, e, f, true⟩) by have h0 := HS.out; simp [stopOf, h0, hw, setD])
    have On := fun w => refOn_any o ⟨4, b, c, d, e, f, true⟩ w
    generalize onOf ⟨4, b, c, d, e, f, true⟩ = z at *
    simp only [sagaV] at On
    clear hw HS
    go_enter Tryd.func71, Tryd.ntmps71
    go_wp2_with (go_at_call 85; go_must ((with_reducible refine (S _).mono ?_); rintro e w1 ⟨rfl, hb⟩; have hT := Two.of hb; have HB1 := Lib.hid (show Below w.heap.size w w1 from Below.trans (((Below.refl _ _).alloc (Nat.le_refl _) _).alloc (by simp) _) (hb.mono (by simp; omega))); have hz1 := hT.lt; obtain ⟨k0, k1, k2, k3, k4, k5, k6, k7, k8, k9, k10, k11⟩ := (hT).cells1; have f1 := (hT).f1; have HT := Lib.hid hT; clear hT hb))
    go_wp2_with (go_at_call 86; go_must ((with_reducible refine (W _).mono ?_); rintro e w2 ⟨rfl, hb⟩; clear k0 k1 k2 k3 k4 k5 k6 k7 k8 k9 k10 k11 f1; have hT := HT.out.below hb; have HB2 := Lib.hid (HB1.out.trans (hb.mono (by omega))); have hz2 := hT.lt; obtain ⟨k0, k1, k2, k3, k4, k5, k6, k7, k8, k9, k10, k11⟩ := (hT).cells1; have f1 := (hT).f1; have HT2 := Lib.hid hT; clear hT hb))
    go_wp2_with (go_at_call 87; go_must ((with_reducible refine (On _).mono ?_); rintro e w3 ⟨rfl, hb⟩; clear k0 k1 k2 k3 k4 k5 k6 k7 k8 k9 k10 k11 f1; have hT := ((HT2.out.set (k := 5) (by simp) (.int .i64 4)).set (k := 11) (by simp) (.bool true)).below hb; have hW2 := Lib.hid (show Below w.heap.size w w3 from ((HB2.out.setCell (Nat.le_refl _) _).setCell (Nat.le_refl _) _).trans (hb.mono (by simp; omega))); have hz3 := hT.lt; obtain ⟨m0, m1, m2, m3, m4, m5, m6, m7, m8, m9, m10, m11⟩ := (hT).cells2; have f2 := (hT).f2; clear hT hb))
    refine bodyPost_ret (v := .tuple #[sagaV o z, .int .i64 0]) (by unfold sagaV; simp [results, Tryd.results71, go_sem, *]) rfl ⟨by rw [HQ.out]; rfl, ?_⟩
    have hW2 := hW2.out
    (with_reducible repeat (first | assumption | refine Below.setCell ?_ (by first | exact Nat.le_refl _ | omega | (simp; done) | (simp; omega)) _))
  · have HQ := Lib.hid (show stopOf ⟨a, b, c, d, e, f, x⟩ = some (onOf ⟨a, 4, c, d, e, f, true⟩) by have h0 := HS.out; simp [stopOf, h0, hw, setD])
    have On := fun w => refOn_any o ⟨a, 4, c, d, e, f, true⟩ w
    generalize onOf ⟨a, 4, c, d, e, f, true⟩ = z at *
    simp only [sagaV] at On
    clear hw HS
    go_enter Tryd.func71, Tryd.ntmps71
    go_wp2_with (go_at_call 85; go_must ((with_reducible refine (S _).mono ?_); rintro e w1 ⟨rfl, hb⟩; have hT := Two.of hb; have HB1 := Lib.hid (show Below w.heap.size w w1 from Below.trans (((Below.refl _ _).alloc (Nat.le_refl _) _).alloc (by simp) _) (hb.mono (by simp; omega))); have hz1 := hT.lt; obtain ⟨k0, k1, k2, k3, k4, k5, k6, k7, k8, k9, k10, k11⟩ := (hT).cells1; have f1 := (hT).f1; have HT := Lib.hid hT; clear hT hb))
    go_wp2_with (go_at_call 86; go_must ((with_reducible refine (W _).mono ?_); rintro e w2 ⟨rfl, hb⟩; clear k0 k1 k2 k3 k4 k5 k6 k7 k8 k9 k10 k11 f1; have hT := HT.out.below hb; have HB2 := Lib.hid (HB1.out.trans (hb.mono (by omega))); have hz2 := hT.lt; obtain ⟨k0, k1, k2, k3, k4, k5, k6, k7, k8, k9, k10, k11⟩ := (hT).cells1; have f1 := (hT).f1; have HT2 := Lib.hid hT; clear hT hb))
    go_wp2_with (go_at_call 87; go_must ((with_reducible refine (On _).mono ?_); rintro e w3 ⟨rfl, hb⟩; clear k0 k1 k2 k3 k4 k5 k6 k7 k8 k9 k10 k11 f1; have hT := ((HT2.out.set (k := 6) (by simp) (.int .i64 4)).set (k := 11) (by simp) (.bool true)).below hb; have hW2 := Lib.hid (show Below w.heap.size w w3 from ((HB2.out.setCell (Nat.le_refl _) _).setCell (Nat.le_refl _) _).trans (hb.mono (by simp; omega))); have hz3 := hT.lt; obtain ⟨m0, m1, m2, m3, m4, m5, m6, m7, m8, m9, m10, m11⟩ := (hT).cells2; have f2 := (hT).f2; clear hT hb))
    refine bodyPost_ret (v := .tuple #[sagaV o z, .int .i64 0]) (by unfold sagaV; simp [results, Tryd.results71, go_sem, *]) rfl ⟨by rw [HQ.out]; rfl, ?_⟩
    have hW2 := hW2.out
    (with_reducible repeat (first | assumption | refine Below.setCell ?_ (by first | exact Nat.le_refl _ | omega | (simp; done) | (simp; omega)) _))
  · have HQ := Lib.hid (show stopOf ⟨a, b, c, d, e, f, x⟩ = some (onOf ⟨a, b, 4, d, e, f, true⟩) by have h0 := HS.out; simp [stopOf, h0, hw, setD])
    have On := fun w => refOn_any o ⟨a, b, 4, d, e, f, true⟩ w
    generalize onOf ⟨a, b, 4, d, e, f, true⟩ = z at *
    simp only [sagaV] at On
    clear hw HS
    go_enter Tryd.func71, Tryd.ntmps71
    go_wp2_with (go_at_call 85; go_must ((with_reducible refine (S _).mono ?_); rintro e w1 ⟨rfl, hb⟩; have hT := Two.of hb; have HB1 := Lib.hid (show Below w.heap.size w w1 from Below.trans (((Below.refl _ _).alloc (Nat.le_refl _) _).alloc (by simp) _) (hb.mono (by simp; omega))); have hz1 := hT.lt; obtain ⟨k0, k1, k2, k3, k4, k5, k6, k7, k8, k9, k10, k11⟩ := (hT).cells1; have f1 := (hT).f1; have HT := Lib.hid hT; clear hT hb))
    go_wp2_with (go_at_call 86; go_must ((with_reducible refine (W _).mono ?_); rintro e w2 ⟨rfl, hb⟩; clear k0 k1 k2 k3 k4 k5 k6 k7 k8 k9 k10 k11 f1; have hT := HT.out.below hb; have HB2 := Lib.hid (HB1.out.trans (hb.mono (by omega))); have hz2 := hT.lt; obtain ⟨k0, k1, k2, k3, k4, k5, k6, k7, k8, k9, k10, k11⟩ := (hT).cells1; have f1 := (hT).f1; have HT2 := Lib.hid hT; clear hT hb))
    go_wp2_with (go_at_call 87; go_must ((with_reducible refine (On _).mono ?_); rintro e w3 ⟨rfl, hb⟩; clear k0 k1 k2 k3 k4 k5 k6 k7 k8 k9 k10 k11 f1; have hT := ((HT2.out.set (k := 7) (by simp) (.int .i64 4)).set (k := 11) (by simp) (.bool true)).below hb; have hW2 := Lib.hid (show Below w.heap.size w w3 from ((HB2.out.setCell (Nat.le_refl _) _).setCell (Nat.le_refl _) _).trans (hb.mono (by simp; omega))); have hz3 := hT.lt; obtain ⟨m0, m1, m2, m3, m4, m5, m6, m7, m8, m9, m10, m11⟩ := (hT).cells2; have f2 := (hT).f2; clear hT hb))
    refine bodyPost_ret (v := .tuple #[sagaV o z, .int .i64 0]) (by unfold sagaV; simp [results, Tryd.results71, go_sem, *]) rfl ⟨by rw [HQ.out]; rfl, ?_⟩
    have hW2 := hW2.out
    (with_reducible repeat (first | assumption | refine Below.setCell ?_ (by first | exact Nat.le_refl _ | omega | (simp; done) | (simp; omega)) _))
  · have HQ := Lib.hid (show stopOf ⟨a, b, c, d, e, f, x⟩ = some (onOf ⟨a, b, c, 4, e, f, true⟩) by have h0 := HS.out; simp [stopOf, h0, hw, setD])
    have On := fun w => refOn_any o ⟨a, b, c, 4, e, f, true⟩ w
    generalize onOf ⟨a, b, c, 4, e, f, true⟩ = z at *
    simp only [sagaV] at On
    clear hw HS
    go_enter Tryd.func71, Tryd.ntmps71
    go_wp2_with (go_at_call 85; go_must ((with_reducible refine (S _).mono ?_); rintro e w1 ⟨rfl, hb⟩; have hT := Two.of hb; have HB1 := Lib.hid (show Below w.heap.size w w1 from Below.trans (((Below.refl _ _).alloc (Nat.le_refl _) _).alloc (by simp) _) (hb.mono (by simp; omega))); have hz1 := hT.lt; obtain ⟨k0, k1, k2, k3, k4, k5, k6, k7, k8, k9, k10, k11⟩ := (hT).cells1; have f1 := (hT).f1; have HT := Lib.hid hT; clear hT hb))
    go_wp2_with (go_at_call 86; go_must ((with_reducible refine (W _).mono ?_); rintro e w2 ⟨rfl, hb⟩; clear k0 k1 k2 k3 k4 k5 k6 k7 k8 k9 k10 k11 f1; have hT := HT.out.below hb; have HB2 := Lib.hid (HB1.out.trans (hb.mono (by omega))); have hz2 := hT.lt; obtain ⟨k0, k1, k2, k3, k4, k5, k6, k7, k8, k9, k10, k11⟩ := (hT).cells1; have f1 := (hT).f1; have HT2 := Lib.hid hT; clear hT hb))
    go_wp2_with (go_at_call 87; go_must ((with_reducible refine (On _).mono ?_); rintro e w3 ⟨rfl, hb⟩; clear k0 k1 k2 k3 k4 k5 k6 k7 k8 k9 k10 k11 f1; have hT := ((HT2.out.set (k := 8) (by simp) (.int .i64 4)).set (k := 11) (by simp) (.bool true)).below hb; have hW2 := Lib.hid (show Below w.heap.size w w3 from ((HB2.out.setCell (Nat.le_refl _) _).setCell (Nat.le_refl _) _).trans (hb.mono (by simp; omega))); have hz3 := hT.lt; obtain ⟨m0, m1, m2, m3, m4, m5, m6, m7, m8, m9, m10, m11⟩ := (hT).cells2; have f2 := (hT).f2; clear hT hb))
    refine bodyPost_ret (v := .tuple #[sagaV o z, .int .i64 0]) (by unfold sagaV; simp [results, Tryd.results71, go_sem, *]) rfl ⟨by rw [HQ.out]; rfl, ?_⟩
    have hW2 := hW2.out
    (with_reducible repeat (first | assumption | refine Below.setCell ?_ (by first | exact Nat.le_refl _ | omega | (simp; done) | (simp; omega)) _))
  · have HQ := Lib.hid (show stopOf ⟨a, b, c, d, e, f, x⟩ = some (onOf ⟨a, b, c, d, 4, f, true⟩) by have h0 := HS.out; simp [stopOf, h0, hw, setD])
    have On := fun w => refOn_any o ⟨a, b, c, d, 4, f, true⟩ w
    generalize onOf ⟨a, b, c, d, 4, f, true⟩ = z at *
    simp only [sagaV] at On
    clear hw HS
    go_enter Tryd.func71, Tryd.ntmps71
    go_wp2_with (go_at_call 85; go_must ((with_reducible refine (S _).mono ?_); rintro e w1 ⟨rfl, hb⟩; have hT := Two.of hb; have HB1 := Lib.hid (show Below w.heap.size w w1 from Below.trans (((Below.refl _ _).alloc (Nat.le_refl _) _).alloc (by simp) _) (hb.mono (by simp; omega))); have hz1 := hT.lt; obtain ⟨k0, k1, k2, k3, k4, k5, k6, k7, k8, k9, k10, k11⟩ := (hT).cells1; have f1 := (hT).f1; have HT := Lib.hid hT; clear hT hb))
    go_wp2_with (go_at_call 86; go_must ((with_reducible refine (W _).mono ?_); rintro e w2 ⟨rfl, hb⟩; clear k0 k1 k2 k3 k4 k5 k6 k7 k8 k9 k10 k11 f1; have hT := HT.out.below hb; have HB2 := Lib.hid (HB1.out.trans (hb.mono (by omega))); have hz2 := hT.lt; obtain ⟨k0, k1, k2, k3, k4, k5, k6, k7, k8, k9, k10, k11⟩ := (hT).cells1; have f1 := (hT).f1; have HT2 := Lib.hid hT; clear hT hb))
    go_wp2_with (go_at_call 87; go_must ((with_reducible refine (On _).mono ?_); rintro e w3 ⟨rfl, hb⟩; clear k0 k1 k2 k3 k4 k5 k6 k7 k8 k9 k10 k11 f1; have hT := ((HT2.out.set (k := 9) (by simp) (.int .i64 4)).set (k := 11) (by simp) (.bool true)).below hb; have hW2 := Lib.hid (show Below w.heap.size w w3 from ((HB2.out.setCell (Nat.le_refl _) _).setCell (Nat.le_refl _) _).trans (hb.mono (by simp; omega))); have hz3 := hT.lt; obtain ⟨m0, m1, m2, m3, m4, m5, m6, m7, m8, m9, m10, m11⟩ := (hT).cells2; have f2 := (hT).f2; clear hT hb))
    refine bodyPost_ret (v := .tuple #[sagaV o z, .int .i64 0]) (by unfold sagaV; simp [results, Tryd.results71, go_sem, *]) rfl ⟨by rw [HQ.out]; rfl, ?_⟩
    have hW2 := hW2.out
    (with_reducible repeat (first | assumption | refine Below.setCell ?_ (by first | exact Nat.le_refl _ | omega | (simp; done) | (simp; omega)) _))
  · have HQ := Lib.hid (show stopOf ⟨a, b, c, d, e, f, x⟩ = some (onOf ⟨a, b, c, d, e, 4, true⟩) by have h0 := HS.out; simp [stopOf, h0, hw, setD])
    have On := fun w => refOn_any o ⟨a, b, c, d, e, 4, true⟩ w
    generalize onOf ⟨a, b, c, d, e, 4, true⟩ = z at *
    simp only [sagaV] at On
    clear hw HS
    go_enter Tryd.func71, Tryd.ntmps71
    go_wp2_with (go_at_call 85; go_must ((with_reducible refine (S _).mono ?_); rintro e w1 ⟨rfl, hb⟩; have hT := Two.of hb; have HB1 := Lib.hid (show Below w.heap.size w w1 from Below.trans (((Below.refl _ _).alloc (Nat.le_refl _) _).alloc (by simp) _) (hb.mono (by simp; omega))); have hz1 := hT.lt; obtain ⟨k0, k1, k2, k3, k4, k5, k6, k7, k8, k9, k10, k11⟩ := (hT).cells1; have f1 := (hT).f1; have HT := Lib.hid hT; clear hT hb))
    go_wp2_with (go_at_call 86; go_must ((with_reducible refine (W _).mono ?_); rintro e w2 ⟨rfl, hb⟩; clear k0 k1 k2 k3 k4 k5 k6 k7 k8 k9 k10 k11 f1; have hT := HT.out.below hb; have HB2 := Lib.hid (HB1.out.trans (hb.mono (by omega))); have hz2 := hT.lt; obtain ⟨k0, k1, k2, k3, k4, k5, k6, k7, k8, k9, k10, k11⟩ := (hT).cells1; have f1 := (hT).f1; have HT2 := Lib.hid hT; clear hT hb))
    go_wp2_with (go_at_call 87; go_must ((with_reducible refine (On _).mono ?_); rintro e w3 ⟨rfl, hb⟩; clear k0 k1 k2 k3 k4 k5 k6 k7 k8 k9 k10 k11 f1; have hT := ((HT2.out.set (k := 10) (by simp) (.int .i64 4)).set (k := 11) (by simp) (.bool true)).below hb; have hW2 := Lib.hid (show Below w.heap.size w w3 from ((HB2.out.setCell (Nat.le_refl _) _).setCell (Nat.le_refl _) _).trans (hb.mono (by simp; omega))); have hz3 := hT.lt; obtain ⟨m0, m1, m2, m3, m4, m5, m6, m7, m8, m9, m10, m11⟩ := (hT).cells2; have f2 := (hT).f2; clear hT hb))
    refine bodyPost_ret (v := .tuple #[sagaV o z, .int .i64 0]) (by unfold sagaV; simp [results, Tryd.results71, go_sem, *]) rfl ⟨by rw [HQ.out]; rfl, ?_⟩
    have hW2 := hW2.out
    (with_reducible repeat (first | assumption | refine Below.setCell ?_ (by first | exact Nat.le_refl _ | omega | (simp; done) | (simp; omega)) _))
end Go.Proofs.YtibabfedpdoofaaDoor

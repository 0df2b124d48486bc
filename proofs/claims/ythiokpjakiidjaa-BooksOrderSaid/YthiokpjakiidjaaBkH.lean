/-
  Postings told and books copied, by walking the program's and the library's text; conditions: less than 100000 postings.
-/
import Derived.Test.YthiokpjakiidjaaBkG
import Derived.Lib.SliceRun
namespace Go.Own
open Go.RowKit
theorem wpList_lit0 {P : Program} {ops : Array Oper} {rest : List Oper} {o : Oper} {a : Act} {W w : World} {Q : Exit → Act → World → Prop} {L : List Ent} {t e k by' : Nat} (hO : Own W w L) (ho : o.op = .buildSlice t 0 #[]) (ht : IsSlice P t e) (he : IsElem P e k by')
    (hw : Region.wanted o (yielded ops a.tmps) = true) (h : ∀ b w', Own W w' (row e k (.slice (some ⟨b, 0, none⟩) 0 0) [] :: L) → wpList P ops Q rest (a.put o.dst (.slice (some ⟨b, 0, none⟩) 0 0)) w') : wpList P ops Q (o :: rest) a w := by
  have h1 := he.out
  have hpos := he.pos
  cases hi : P.info? e with
  | none => simp [hi] at h1
  | some i =>
    cases hzz : i.zero with
    | none => simp [hi, hzz] at h1
    | some zv =>
      simp only [hi, hzz, Option.bind_some, Option.map_some, Option.some.injEq, Prod.mk.injEq] at h1
      obtain ⟨h2, h3, _⟩ := h1
      have hr : (execOp a.eval o).run P w = .ok (.value (.slice (some ⟨w.heap.size, 0, none⟩) 0 0)) (w.alloc (.cells #[] e)) := by
        unfold execOp
        simp only [ho, Instr.buildSlice]
        simp [underlying, ht.out, sizeOf, typeInfo, hi, h3, zeroValue, hzz, newRow, Instr.fill, show Array.range 0 = #[] by simp [Array.range]]
      refine wpList_value hw hr (h _ _ (hO.more ((Below.refl _ _).alloc (Nat.le_refl _) _) (row_ok _ _ _ _) (World.ownsRow_made w #[] 0 (Nat.zero_le _) (Nat.zero_le _) (by simp)) (fun b hb => ?_) (fun b hb => ?_)))
      · rw [show b = w.heap.size from List.mem_singleton.1 hb]; exact Nat.le_refl _
      · rw [show b = w.heap.size from List.mem_singleton.1 hb]; simp
end Go.Own
namespace Go.Proofs.Ythiokpjakiidjaa
open Go.RowKit Go.Own Go.Maps Go.Shelf

theorem pstC_one (l : List Pst) : ∀ u ∈ (l.map pstC).flatten, u.oneCell' = true := by
  intro u hu
  obtain ⟨x, hx, hu⟩ := List.mem_flatten.1 hu
  obtain ⟨p, _, rfl⟩ := List.mem_map.1 hx
  simp only [pstC, List.mem_cons, List.not_mem_nil, or_false] at hu
  rcases hu with rfl | rfl | rfl | rfl | rfl <;> rfl

set_option maxHeartbeats 8000000 in
set_option maxRecDepth 100000 in
theorem sClone_any {W : World} {v : Value} {l : List Pst} (h : IsL W 5 v (l.map pstC)) (hnil : ∀ n c, v = .slice none n c → n = 0) (hlen : l.length ≤ 100000) : Calls Try.prog 27 #[v] W fun e w' => ∃ v', e = .returned v' ∧ Own W w' [row 30 5 v' (l.map pstC)] := by
  have HO := Own.start W
  have HH := Lib.hid (fun (w' : World) (L : List Ent) (hO : Own W w' L) => h.below hO.grown h.lt)
  have HL := Lib.hid (pstC_len l)
  have H1 := Lib.hid (pstC_one l)
  have hlen1 : ([] : List (List Value)).length + (l.map pstC).length ≤ 1000000 := by rw [List.length_map]; simp; omega
  obtain ⟨sp, sc, rfl, -⟩ := h.slice
  rw [List.length_map] at HH hnil ⊢
  clear h
  cases sp with
  | none =>
    have h0 : l.length = 0 := hnil _ _ rfl
    obtain rfl : l = [] := List.length_eq_zero_iff.1 h0
    replace HO := HO.nil 30 5
    have hq := fun w => Lib.run_eql_slice_nil (P := Try.prog) w _ _ (none : Option Addr) 0 sc 0 0 Try.underlying22
    clear h0 hnil
    go_enter Try.func27, Try.ntmps27
    go_wp2_with fail
    go_ret
    exact ⟨_, rfl, HO⟩
  | some a =>
    have hq := fun w => Lib.run_eql_slice_nil (P := Try.prog) w _ _ (some a) l.length sc 0 0 Try.underlying22
    clear hnil
    go_enter Try.func27, Try.ntmps27
    go_wp2_with (first | ((with_reducible apply wpList_lit0 (k := 5) HO); exact rfl; infer_instance; infer_instance; exact rfl; clear HO; intro bl w HO; (simp only [Act.put, List.setIfInBounds_toArray, List.set_cons_succ, List.set_cons_zero])) | ((with_reducible apply wpList_appendAll HO); exact rfl; infer_instance; infer_instance; (first | (simp [Act.eval]; rfl) | exact rfl); exact rfl; exact (HH.out _ _ HO); exact HL.out; exact H1.out; intro _; (repeat (with_reducible (first | exact At.head _ | apply At.tail))); (first | omega | (simp; omega)); decide; exact rfl; clear HO; intro v2 w HO hv2; (simp only [Act.put, List.setIfInBounds_toArray, List.set_cons_succ, List.set_cons_zero])) | go_big_skip)
    go_ret
    exact ⟨_, rfl, by simpa using HO⟩

def cloneI_ren : Go.Shelf.Ren := ⟨fun | 5 => 28 | 7 => 35 | n => n, fun | 4 => 4 | 20 => 20 | 23 => 43 | 25 => 9 | 3 => 30 | n => n, fun | n => n⟩
theorem cloneI : Go.Proofs.SlLaysW.n5 Try.prog cloneI_ren := {
  mixed := by kernel_rfl
  f5 := ⟨Try.f28.name, by kernel_rfl, Try.func28.trans (congrArg some (by kernel_rfl))⟩
  f7 := Try.func35.trans (congrArg some (by kernel_rfl))
  t4 := Try.underlying4
  a4 := Try.isAgg4
  z4 := Try.sizeOf4
  v4 := Try.zeroValue4
  t20 := Try.underlying20
  a20 := Try.isAgg20
  z20 := Try.sizeOf20
  v20 := Try.zeroValue20
  t23 := Try.underlying43
  a23 := Try.isAgg43
  z23 := Try.sizeOf43
  v23 := Try.zeroValue43 }
def cloneB_ren : Go.Shelf.Ren := ⟨fun | 5 => 29 | 7 => 35 | n => n, fun | 4 => 4 | 20 => 20 | 23 => 44 | 25 => 55 | 3 => 2 | n => n, fun | n => n⟩
theorem cloneB : Go.Proofs.SlLaysW.n5 Try.prog cloneB_ren := {
  mixed := by kernel_rfl
  f5 := ⟨Try.f29.name, by kernel_rfl, Try.func29.trans (congrArg some (by kernel_rfl))⟩
  f7 := Try.func35.trans (congrArg some (by kernel_rfl))
  t4 := Try.underlying4
  a4 := Try.isAgg4
  z4 := Try.sizeOf4
  v4 := Try.zeroValue4
  t20 := Try.underlying20
  a20 := Try.isAgg20
  z20 := Try.sizeOf20
  v20 := Try.zeroValue20
  t23 := Try.underlying44
  a23 := Try.isAgg44
  z23 := Try.sizeOf44
  v23 := Try.zeroValue44 }
theorem cloneI_any {w : World} {b : Nat} {l : List Pst} (h : (idE b l).F w) : Calls Try.prog 28 #[.map (some b)] w fun e w' => ∃ b', e = .returned (.map (some b')) ∧ Own w w' [idE b' l] := by
  obtain ⟨n, f, ⟨D, hD, hB⟩, hn, hf⟩ := h
  refine (AnyW.maps_Clone_owns cloneI _ _ b n D w hD).mono fun e w' ⟨he, h1, _, h3⟩ => ⟨_, he, (Own.start w).more h3 (idE_ok _ _) ⟨n, f, ⟨D, h1, hB⟩, hn, hf⟩ (fun b hb => ?_) (fun b hb => ?_)⟩
  · rw [show b = w.heap.size from List.mem_singleton.1 hb]; exact Nat.le_refl _
  · rw [show b = w.heap.size from List.mem_singleton.1 hb]; exact h1.lt
theorem cloneB_any {w : World} {b : Nat} {l : List Pst} (h : (balE b l).F w) : Calls Try.prog 29 #[.map (some b)] w fun e w' => ∃ b', e = .returned (.map (some b')) ∧ Own w w' [balE b' l] := by
  obtain ⟨n, f, ⟨D, hD, hB⟩, hn, hf⟩ := h
  refine (AnyW.maps_Clone_owns cloneB _ _ b n D w hD).mono fun e w' ⟨he, h1, _, h3⟩ => ⟨_, he, (Own.start w).more h3 (balE_ok _ _) ⟨n, f, ⟨D, h1, hB⟩, hn, hf⟩ (fun b hb => ?_) (fun b hb => ?_)⟩
  · rw [show b = w.heap.size from List.mem_singleton.1 hb]; exact Nat.le_refl _
  · rw [show b = w.heap.size from List.mem_singleton.1 hb]; exact h1.lt
theorem BkAt.isL {w : World} {b : Nat} {v : Value} {pm bm : Nat} {l : List Pst} (h : BkAt w b v pm bm l) : IsL w 5 v (l.map pstC) ∧ ∀ n c, v = .slice none n c → n = 0 := by
  refine ⟨isL_of_owns (pstC_len l) h.row, fun n c e => ?_⟩
  rcases h.row.2 with ⟨rfl, h0⟩ | ⟨g, cap, cur, rfl, _⟩
  · cases e; rfl
  · cases e

set_option maxHeartbeats 8000000 in
set_option maxRecDepth 100000 in
theorem bkList_any {W : World} {b : Nat} {v : Value} {pm bm : Nat} {l : List Pst} (h : BkAt W b v pm bm l) (hlen : l.length ≤ 100000) : Calls Try.prog 18 #[.pointer (some ⟨b, 0, none⟩)] W fun e w' => ∃ v', e = .returned v' ∧ Own W w' [row 30 5 v' (l.map pstC)] := by
  have HO := Own.start W
  have N := bkNone_any h.box
  have HC := fun w (hb : Below W.heap.size W w) => sClone_any ((h.below hb).isL.1) h.isL.2 hlen
  have hv : v.oneCell' = true := by
    rcases h.row.2 with ⟨rfl, h0⟩ | ⟨g, cap, cur, rfl, _⟩ <;> rfl
  have h0 := old_cell h.box 0 rfl
  have hlt := old_lt h.box
  clear h
  go_enter Try.func18, Try.ntmps18
  go_wp2_with (first | go_big_skip | ((with_reducible apply wpList_loadOld1 HO); exact rfl; exact rfl; exact hlt; exact h0; infer_instance; exact rfl; (simp only [Act.put, List.setIfInBounds_toArray, List.set_cons_succ, List.set_cons_zero])) | (go_at_call 21; go_must ((with_reducible refine (N).mono ?_); rintro e w ⟨rfl, hb⟩; replace HO := HO.call hb; clear hb)) | (go_at_call 27; go_must ((with_reducible refine (HC _ HO.grown).mono ?_); rintro e w ⟨v2, rfl, HO1⟩; replace HO := HO.lift HO1; clear HO1; simp only [List.cons_append, List.nil_append] at HO)))
  go_ret
  exact ⟨_, rfl, HO⟩

set_option maxHeartbeats 8000000 in
set_option maxRecDepth 100000 in
theorem bkCopy_any {W : World} {b : Nat} {v : Value} {pm bm : Nat} {l : List Pst} (h : BkAt W b v pm bm l) (hlen : l.length ≤ 100000) : Calls Try.prog 20 #[.pointer (some ⟨b, 0, none⟩)] W fun e w' => ∃ b' v' pm' bm', e = .returned (.pointer (some ⟨b', 0, none⟩)) ∧ Own W w' [bkE b' v' pm' bm' l] := by
  have HO := Own.start W
  have N := bkNone_any h.box
  have HC := fun w (hb : Below W.heap.size W w) => sClone_any ((h.below hb).isL.1) h.isL.2 hlen
  have HI := fun w (hb : Below W.heap.size W w) => cloneI_any (h.below hb).ids
  have HB := fun w (hb : Below W.heap.size W w) => cloneB_any (h.below hb).bals
  have hv : v.oneCell' = true := by
    rcases h.row.2 with ⟨rfl, h0⟩ | ⟨g, cap, cur, rfl, _⟩ <;> rfl
  have hlt := old_lt h.box
  have HK := Lib.hid (fun (w' : World) (hb : Below W.heap.size W w') (i : Nat) (u : Value) (hu : [v, .map (some pm), .map (some bm)][i]? = some u) => show w'.cell? ⟨b, i, none⟩ = some u by
    rw [hb.cell (p := ⟨b, i, none⟩) hlt]; exact old_cell h.box i hu)
  clear h
  go_enter Try.func20, Try.ntmps20
  go_upto_region 3 with (first | go_big_skip | (go_at_call 21; go_must ((with_reducible refine (N).mono ?_); rintro e w ⟨rfl, hb⟩; replace HO := HO.call hb; clear hb)))
  refine region_treeO [] [(0, true), (1, true), (2, true), (3, true), (5, true), (6, true), (7, true), (8, true), (10, true), (11, true), (12, true), (13, true), (4, false), (9, false), (14, false), (15, true), (16, false), (17, true)] (.fin [(0, true), (1, true), (2, true), (3, true), (5, true), (6, true), (7, true), (8, true), (10, true), (11, true), (12, true), (13, true), (4, false), (9, false), (14, false), (15, true), (16, false), (17, true)]) HO (by with_reducible (repeat (first | exact List.nil_sublist _ | apply List.Sublist.cons_cons | apply List.Sublist.cons))) (by kernel_rfl) (by kernel_rfl) ?_
  clear HO
  intro w HO
  refine wpS_fin ?_
  iterate 12 (first | ((with_reducible apply wpSched_loadAt1); exact rfl; exact rfl; exact rfl; exact (fun w' hw => HK.out w' (hw _ List.mem_cons_self) _ _ rfl); infer_instance; exact rfl; (simp only [Act.put, List.setIfInBounds_toArray, List.set_cons_succ, List.set_cons_zero])) | ((with_reducible apply wpSched_pure); exact rfl; exact rfl; (intro w'; go_simp; try with_reducible rfl); (simp only [Act.put, List.setIfInBounds_toArray, List.set_cons_succ, List.set_cons_zero])))
  ((with_reducible apply wpSched_loud); exact rfl; go_wp2_with ((go_at_call 27; go_must ((with_reducible refine (HC _ HO.grown).mono ?_); rintro e w ⟨v2, rfl, HO1⟩; replace HO := HO.lift HO1; clear HO1; simp only [List.cons_append, List.nil_append] at HO))))
  obtain ⟨⟨p9, c9, rfl⟩, -⟩ := HO.rowForm (v := v2) (.head _)
  rw [List.length_map] at HO ⊢
  refine thenQ_keep (HO.heldO (by with_reducible (repeat (first | exact List.nil_sublist _ | apply List.Sublist.cons_cons | apply List.Sublist.cons)))) ?_
  ((with_reducible apply wpSched_loud); exact rfl; go_wp2_with ((go_at_call 28; go_must ((with_reducible refine (HI _ HO.grown).mono ?_); rintro e w ⟨b2, rfl, HO1⟩; replace HO := HO.lift HO1; clear HO1; simp only [List.cons_append, List.nil_append] at HO))))
  refine thenQ_keep (HO.heldO (by with_reducible (repeat (first | exact List.nil_sublist _ | apply List.Sublist.cons_cons | apply List.Sublist.cons)))) ?_
  ((with_reducible apply wpSched_loud); exact rfl; go_wp2_with ((go_at_call 29; go_must ((with_reducible refine (HB _ HO.grown).mono ?_); rintro e w ⟨b3, rfl, HO1⟩; replace HO := HO.lift HO1; clear HO1; simp only [List.cons_append, List.nil_append] at HO))))
  refine thenQ_keep (HO.heldO (by with_reducible (repeat (first | exact List.nil_sublist _ | apply List.Sublist.cons_cons | apply List.Sublist.cons)))) ?_
  ((with_reducible apply wpSched_pure); exact rfl; exact rfl; (intro w'; go_simp; try with_reducible rfl); (simp only [Act.put, List.setIfInBounds_toArray, List.set_cons_succ, List.set_cons_zero]))
  ((with_reducible apply wpSched_loud); exact rfl; (first | ((with_reducible apply wpList_boxAgg _ HO rfl); exact rfl; exact rfl; exact rfl; clear HO; intro b4 w HO; (simp only [Act.put, List.setIfInBounds_toArray, List.set_cons_succ, List.set_cons_zero])) | ((with_reducible apply wpList_allocAgg _ HO rfl); exact rfl; infer_instance; exact rfl; clear HO; intro b4 w HO; (simp only [Act.put, List.setIfInBounds_toArray, List.set_cons_succ, List.set_cons_zero]))))
  refine wpList_nil (thenQ_keep (HO.heldO (by with_reducible (repeat (first | exact List.nil_sublist _ | apply List.Sublist.cons_cons | apply List.Sublist.cons)))) ?_)
  ((with_reducible apply wpSched_pure); exact rfl; exact rfl; (intro w'; go_simp; try with_reducible rfl); (simp only [Act.put, List.setIfInBounds_toArray, List.set_cons_succ, List.set_cons_zero]))
  refine wpSched_end ?_
  go_wp2_with fail
  go_ret
  exact ⟨b4, .slice p9 l.length c9, b2, b3, rfl, Own.join (es := bkPs b4 (.slice p9 l.length c9) b2 b3 l) (HO.perm ((List.reverse_perm [_, _, _]).symm.cons _))⟩
end Go.Proofs.Ythiokpjakiidjaa

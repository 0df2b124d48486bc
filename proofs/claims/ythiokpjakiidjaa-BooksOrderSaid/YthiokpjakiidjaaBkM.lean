/-
  The books' two maps: their keys, and one copied over another; conditions: int64 numbers.
-/
import Derived.Test.YthiokpjakiidjaaBkB
import Derived.Test.YthiokpjakiidjaaRange
import Derived.StringKeys
import Derived.DeepKeys4
namespace Go.Proofs.Ythiokpjakiidjaa
open Go.RowKit Go.Own Go.Maps

theorem bkLaid : laidOutB Try.prog = true := by kernel_rfl
theorem bkSlot : 55 < Try.prog.types.size := of_decide_eq_true (by kernel_rfl)
set_option maxRecDepth 100000 in
theorem bkWide : (match Try.prog.underlying 55 with | some (.array _ _) | some (.struct _) => true | _ => false) = true := by kernel_rfl
set_option maxRecDepth 100000 in
theorem slotKeyed : Keyed Try.prog 55 := Keyed.of_law (deep_law_laid bkLaid (m := 2) (by omega) bkSlot (by kernel_rfl) bkWide)
theorem strKeyed : Keyed Try.prog 9 := string_keyed Try.underlying9
theorem bkCells : Try.prog.cellsOf 55 = 2 := by kernel_rfl
theorem bkCells1 : Try.prog.cellsOf 3 = 1 := by kernel_rfl
theorem bkType : Try.prog.keyType 55 = true := by kernel_rfl
theorem bkSize : decide (2 ≤ Try.prog.types.size) = true := by kernel_rfl
theorem wf_in {n : Int} (h : inI n = true) : (Lit.int .i64 n).wf = true := by
  have := inI_iff.1 h
  simp [Lit.wf, IntKind.min, IntKind.max, IntKind.bits, IntKind.signed]
  omega
theorem bkLits_int (n : Nat) {o : Int} (h1 : (Lit.int .i64 o).wf = true) : Try.prog.keyLits (n + 1) 3 [.int .i64 o] = some [.int .i64 o] := by
  unfold Program.keyLits
  rw [Try.underlying3]
  simp [h1]
theorem bkLits_key (n : Nat) {o d : Int} (h1 : (Lit.int .i64 o).wf = true) (h2 : (Lit.int .i64 d).wf = true) : Try.prog.keyLits (n + 2) 55 [.int .i64 o, .int .i64 d] = some [.int .i64 o, .int .i64 d] := by
  unfold Program.keyLits
  rw [Try.underlying55]
  simp [bkCells, bkCells1, bkLits_int n h1, bkLits_int n h2]
theorem slot_formed (o d : Int) : (Value.agg #[.int .i64 o, .int .i64 d]).formed Try.prog 55 = true := by
  unfold Value.formed
  rw [Try.underlying55]
  simp [bkCells]
theorem slotOf_some {o d : Int} (h1 : (Lit.int .i64 o).wf = true) (h2 : (Lit.int .i64 d).wf = true) : ∃ l, keyOf Try.prog 55 (.agg #[.int .i64 o, .int .i64 d]) = some l := by
  have hs := of_decide_eq_true bkSize
  obtain ⟨m, hm⟩ : ∃ m, Try.prog.types.size + 1 = m + 2 := ⟨Try.prog.types.size - 1, by omega⟩
  unfold keyOf
  rw [Try.underlying55]
  simp only [bkType, slot_formed, Bool.and_self, if_true, hm]
  rw [show (Value.agg #[.int .i64 o, .int .i64 d]).cells.toList = [.int .i64 o, .int .i64 d] from rfl, bkLits_key m h1 h2]
  exact ⟨_, rfl⟩
noncomputable def slotLit (n o : Int) : Lit := (keyOf Try.prog 55 (.agg #[.int .i64 n, .int .i64 o])).getD (.bool true)
theorem slotOf_lit {n o : Int} (h1 : inI n = true) (h2 : inI o = true) : keyOf Try.prog 55 (.agg #[.int .i64 n, .int .i64 o]) = some (slotLit n o) := by
  obtain ⟨l, hl⟩ := slotOf_some (wf_in h1) (wf_in h2)
  rw [slotLit, hl]
  rfl
theorem slotLit_inj {n o n' o' : Int} (h1 : inI n = true) (h2 : inI o = true) (h1' : inI n' = true) (h2' : inI o' = true) (h : slotLit n o = slotLit n' o') : n = n' ∧ o = o' := by
  have := slotKeyed.inj (slotOf_lit h1 h2) (by rw [h]; exact slotOf_lit h1' h2')
  simpa using this
theorem keyLits_inv {n : Nat} {v : Value} {l : List Lit} (h : Try.prog.keyLits n 3 [v] = some l) : ∃ x, v = .int .i64 x := by
  cases n with
  | zero => cases h
  | succ n =>
    unfold Program.keyLits at h
    rw [Try.underlying3] at h
    cases v <;> simp at h
    rename_i q x
    exact ⟨x, by rw [h.1.1]⟩
/-- The form of a slot's key. -/
theorem slot_inv {v : Value} {l : Lit} (h : keyOf Try.prog 55 v = some l) : ∃ n o, v = .agg #[.int .i64 n, .int .i64 o] := by
  have hs := of_decide_eq_true bkSize
  obtain ⟨m, hm⟩ : ∃ m, Try.prog.types.size + 1 = m + 2 := ⟨Try.prog.types.size - 1, by omega⟩
  unfold keyOf at h
  rw [Try.underlying55] at h
  simp only [bkType, Bool.true_and, hm] at h
  split at h
  · rename_i hf
    unfold Value.formed at hf
    rw [Try.underlying55] at hf
    cases v <;> simp [bkCells] at hf
    rename_i cs
    obtain ⟨x, y, rfl⟩ : ∃ x y, cs = #[x, y] := by
      obtain ⟨cl⟩ := cs
      match cl, hf with
      | [x, y], _ => exact ⟨x, y, rfl⟩
    unfold Program.keyLits at h
    rw [Try.underlying55] at h
    simp [bkCells, bkCells1, Value.cells] at h
    cases hx : Try.prog.keyLits (m + 1) 3 [x] with
    | none => rw [hx] at h; cases h
    | some lx =>
      cases hy : Try.prog.keyLits (m + 1) 3 [y] with
      | none => rw [hx, hy] at h; cases h
      | some ly =>
        obtain ⟨n, rfl⟩ := keyLits_inv hx
        obtain ⟨o, rfl⟩ := keyLits_inv hy
        exact ⟨n, o, rfl⟩
  · cases h

set_option maxHeartbeats 8000000 in
set_option maxRecDepth 100000 in
theorem mapsCopy_any {W w : World} {L : List Ent} {bs bd n m : Nat} {g f : Lit → Option Value} (HO : Own W w (mapE Try.prog 55 bs n g :: mapE Try.prog 55 bd m f :: L)) (hr : m + n < maxLen) (hg : ∀ l, WideAt.IsKeyLit l → ∀ v, g l = some v → ∃ x, v = .int .i64 x) :
    Calls Try.prog 24 #[.map (some bd), .map (some bs)] w fun e w' => e = .returned (.tuple #[]) ∧ Own W w' (mapE Try.prog 55 bs n g :: mapE Try.prog 55 bd (m + n) (mergeF f g) :: L) := by
  have HG := Lib.hid hg
  have HR := Lib.hid hr
  clear hg hr
  have hu := Try.underlying44
  go_enter Try.func24, Try.ntmps24
  go_wp2_with (first | ((with_reducible apply wpList_rangeOwn HO (kt := 55) (et := 2)); exact rfl; exact rfl; exact slotKeyed; exact hu; (intro _ _ _; (repeat (with_reducible (first | exact At.head _ | apply At.tail)))); exact rfl; clear HO; intro r left cnt w hcnt hleft HO; (simp only [Act.put, List.setIfInBounds_toArray, List.set_cons_succ, List.set_cons_zero])))
  replace hleft := Lib.hid hleft
  go_loopw [] (fun wr => ∃ (left' : Lit → Bool) (cnt' : Nat) (fj : Lit → Option Value), cnt' ≤ cnt ∧ (∀ l, WideAt.IsKeyLit l → fj l = match g l with | some v => if left' l = true then f l else some v | none => f l) ∧ Own W wr (rangeE Try.prog 55 bs r n g left' cnt' :: mapE Try.prog 55 bd (m + (n - cnt')) fj :: L)) (fun wr => wr.rangeLeft bs r)
  case atStart =>
    refine ⟨left, cnt, f, Nat.le_refl _, fun l hl => ?_, mapE_mono HO (by (repeat (with_reducible (first | exact At.head _ | apply At.tail)))) (by omega)⟩
    cases hgl : g l with
    | none => rfl
    | some v => simp only [if_pos (hleft.out l hl v hgl)]
  case round =>
    clear HO
    obtain ⟨left', cnt', fj, hc, hfj, HO⟩ := hrel
    replace hfj := Lib.hid hfj
    have hm := rangeLeft_of HO (.head _)
    go_wp2_with (first | ((with_reducible apply wpList_nextOwn HO); exact rfl; exact rfl; exact slotKeyed; (intro _ _; (repeat (with_reducible (first | exact At.head _ | apply At.tail)))); exact rfl) | go_big_skip)
    · intro hl
      have HE := Own.mapCongr (HO.rangeEnd (.head _)) (.tail _ _ _ (.head _)) (g := mergeF f g) (fun l hk => by rw [hfj.out l hk, mergeF, hl l]; cases g l <;> rfl)
      replace HE := mapE_mono HE (n' := m + n) (.tail _ _ _ (.head _)) (by omega)
      clear HO
      go_wp2_with fail
      go_end0
      exact ⟨rfl, HE⟩
    · intro key c kl cnt2 w hkey hlk hgk hlt HO hen
      have hkl := slotKeyed.key hkey
      obtain ⟨kn, ko, rfl⟩ := slot_inv hkey
      obtain ⟨x, rfl⟩ := HG.out kl hkl c hgk
      have HF := Lib.hid (show ∀ l, WideAt.IsKeyLit l → updF fj kl (.int .i64 x) l = match g l with | some v => if (left' l && !l.sameKey kl) = true then f l else some v | none => f l from fun l hl => by
        unfold updF
        cases e : l.sameKey kl
        · rw [if_neg (by simp), hfj.out l hl]
          simp only [Bool.not_false, Bool.and_true]
        · obtain rfl := WideAt.sameKey_eq e
          rw [if_pos rfl, hgk]
          simp)
      have hroom : m + (n - cnt') < maxLen := by have := HR.out; omega
      have hle : m + (n - cnt') + 1 ≤ m + (n - cnt2) := by have := HR.out; omega
      replace hm := Lib.hid hm
      clear hfj
      go_wp2_with (first | (first | go_big_skip | ((with_reducible apply wpList_loadAll HO); exact rfl; exact rfl; (repeat (with_reducible (first | exact At.head _ | apply At.tail))); infer_instance; exact rfl; exact rfl; (simp only [Act.put, List.setIfInBounds_toArray, List.set_cons_succ, List.set_cons_zero])) | ((with_reducible apply wpList_loadOne HO); exact rfl; exact rfl; (repeat (with_reducible (first | exact At.head _ | apply At.tail))); exact rfl; infer_instance; exact rfl; (simp only [Act.put, List.setIfInBounds_toArray, List.set_cons_succ, List.set_cons_zero]))) | ((with_reducible apply wpList_storeAll HO); exact rfl; exact rfl; exact rfl; (repeat (with_reducible (first | exact At.head _ | apply At.tail))); infer_instance; exact rfl; exact rfl; exact rfl; exact rfl; clear HO; intro w HO; (simp only [Act.put])) | (first | ((with_reducible apply wpList_boxAgg _ HO rfl); exact rfl; exact rfl; exact rfl; clear HO; intro b4 w HO; (simp only [Act.put, List.setIfInBounds_toArray, List.set_cons_succ, List.set_cons_zero])) | ((with_reducible apply wpList_allocAgg _ HO rfl); exact rfl; infer_instance; exact rfl; clear HO; intro b4 w HO; (simp only [Act.put, List.setIfInBounds_toArray, List.set_cons_succ, List.set_cons_zero]))) | ((with_reducible apply wpList_mapPut HO (kt := 55) (et := 2)); exact rfl; exact rfl; exact rfl; (first | (simp [Act.eval]; rfl) | exact rfl); (repeat (with_reducible (first | exact At.head _ | apply At.tail))); exact slotKeyed; exact Try.underlying44; exact hroom; exact hkey; exact rfl; clear HO; intro w HO; (simp only [Act.put])))
      have HE := mapE_mono HO.tail (.tail _ _ _ (.head _)) hle
      clear HO
      have hm2 := rangeLeft_of HE (.head _)
      go_roundw
      case rel => exact ⟨_, cnt2, _, by omega, HF.out, HE⟩
      case measure => rw [hm2, hm.out]; exact hlt
end Go.Proofs.Ythiokpjakiidjaa

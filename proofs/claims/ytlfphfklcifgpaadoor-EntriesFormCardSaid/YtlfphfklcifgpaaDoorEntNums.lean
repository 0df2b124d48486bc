/-
  So many numbers that are all there is, by walking the program's text; conditions: a text that is not too long.
-/
import Derived.Test.YtlfphfklcifgpaaDoorOrdGet
import Derived.Test.YtlfphfklcifgpaaDoorOwn3
import Derived.Test.YtlfphfklcifgpaaDoorTypes
namespace Go.Proofs.YtlfphfklcifgpaaDoor
open Go.RowKit Go.Own

/-- So many numbers, and what stands behind them. -/
def takeN : Nat → List UInt8 → Option (List Nat × List UInt8)
  | 0, l => some ([], l)
  | m + 1, l => match readB l with
    | some (n, r) => if n ≤ 1073741824 then (takeN m r).map (fun x => (n :: x.1, x.2)) else none
    | none => none
def numsN (m : Nat) (l : List UInt8) : Option (List Nat) := match takeN m l with
  | some (A, r) => if r = [] then some A else none
  | none => none
theorem takeN_none {m : Nat} {l : List UInt8} (h : readB l = none) : takeN (m + 1) l = none := by simp [takeN, h]
theorem takeN_some {m n : Nat} {l r : List UInt8} (h : readB l = some (n, r)) : takeN (m + 1) l = if n ≤ 1073741824 then (takeN m r).map (fun x => (n :: x.1, x.2)) else none := by simp [takeN, h]
def natC (n : Nat) : List Value := [.int .i64 n]
theorem natLen (A : List Nat) : ∀ l ∈ A.map natC, l.length = 1 := fun l hl => by obtain ⟨x, _, rfl⟩ := List.mem_map.1 hl; rfl
def NumsNPost (m : Nat) (l : List UInt8) (W : World) (L : List Ent) (e : Ending) (w' : World) : Prop := match numsN m l with
  | some A => ∃ v', e = .returned (.tuple #[v', .bool true]) ∧ Own W w' (row 3 1 v' (A.map natC) :: L)
  | none => ∃ p n c, e = .returned (.tuple #[.slice p n c, .bool false]) ∧ Own W w' L
theorem wrap_i64n (n : Nat) (h : n < 9223372036854775808) : IntKind.i64.wrap (n : Int) = n := by
  simp [IntKind.wrap, IntKind.bits, IntKind.signed]; omega

set_option maxHeartbeats 4000000 in
set_option maxRecDepth 100000 in
theorem numbersN_any {W w : World} {L : List Ent} (m : Nat) (l : List UInt8) (hm : m ≤ 1000) (hl : l.length ≤ maxLen) (HO : Own W w L) : Calls Tryd.prog 67 #[.string ⟨l.toArray⟩, .int .i64 m] w (NumsNPost m l W L) := by
  have hNP : NumsNPost m l W L = NumsNPost m l W L := rfl
  conv at hNP => rhs; unfold NumsNPost
  have HNP := Lib.hid hNP
  clear hNP
  replace HO := HO.nil 3 1
  go_enter Tryd.func67, Tryd.ntmps67
  go_wp2_with fail
  go_loopw [0, 6, 11] (fun s v i wr => ∃ (A : List Nat) (r : List UInt8) (j : Nat), s = .string ⟨r.toArray⟩ ∧ i = .int .i64 (j : Int) ∧ j ≤ m ∧ A.length = j ∧ r.length ≤ l.length ∧ takeN m l = (takeN (m - j) r).map (fun x => (A ++ x.1, x.2)) ∧ Own W wr (row 3 1 v (A.map natC) :: L)) (fun _ _ i _ => m - (intOf i).toNat)
  case atStart => exact ⟨[], l, 0, rfl, rfl, by omega, rfl, by omega, by simp, HO⟩
  case round =>
    clear HO
    obtain ⟨A, r, j, rfl, rfl, hj, hA, hr, hnum, HO⟩ := hrel
    have HN := Lib.hid hnum
    have HA := Lib.hid hA
    have hAl : A.length + 1 ≤ 1000000 := by omega
    clear hnum hA
    obtain ⟨p, c, rfl⟩ := (HO.rowForm (.head _)).1
    rw [List.length_map] at HO ⊢
    by_cases hjm : j = m
    · subst hjm
      have HN2 := Lib.hid (show takeN j l = some (A, r) by rw [HN.out, Nat.sub_self]; simp [takeN])
      by_cases hr0 : r = []
      · subst hr0
        go_wp2_with fail
        refine bodyPost_ret (v := .tuple #[.slice p A.length c, .bool true]) ?_ rfl ?_
        · (simp only [results, Tryd.results67]; go_simp)
        rw [HNP.out, show numsN j l = some A by rw [numsN, HN2.out]; rfl]
        exact ⟨_, rfl, HO⟩
      · have hne : r.isEmpty = false := by cases r <;> simp_all
        have hne2 : (r == []) = false := by cases r <;> simp_all
        have HR := Lib.hid hr0
        clear hr0
        go_wp2_with fail
        refine bodyPost_ret (v := .tuple #[.slice p A.length c, .bool false]) ?_ rfl ?_
        · (simp only [results, Tryd.results67]; go_simp)
        rw [HNP.out, show numsN j l = none by rw [numsN, HN2.out]; exact if_neg HR.out]
        exact ⟨_, _, _, rfl, HO.tail⟩
    · obtain ⟨k, hk⟩ : ∃ k, m - j = k + 1 := ⟨m - j - 1, by omega⟩
      have HN2 := Lib.hid (hk ▸ HN.out)
      have hlt : (j : Int) < (m : Int) := by omega
      have hR := fun w => read_any r w (by omega)
      cases hrd : readB r with
      | none =>
        have HQ := Lib.hid (@takeN_none k r hrd)
        rw [hrd] at hR
        simp only [retRead] at hR
        clear hrd
        go_wp2_with (first | (first | go_big_skip | ((with_reducible apply wpList_loadAll HO); exact rfl; exact rfl; (repeat (with_reducible (first | exact At.head _ | apply At.tail))); infer_instance; exact rfl; exact rfl; (simp only [Act.put, List.setIfInBounds_toArray, List.set_cons_succ, List.set_cons_zero])) | ((with_reducible apply wpList_loadOne HO); exact rfl; exact rfl; (repeat (with_reducible (first | exact At.head _ | apply At.tail))); exact rfl; infer_instance; exact rfl; (simp only [Act.put, List.setIfInBounds_toArray, List.set_cons_succ, List.set_cons_zero]))) | (go_at_call 65; go_must ((with_reducible refine (hR _).mono ?_); rintro e w ⟨rfl, hb⟩; replace HO := HO.call hb; clear hb)))
        refine bodyPost_ret (v := .tuple #[.slice none 0 0, .bool false]) ?_ rfl ?_
        · (simp only [results, Tryd.results67]; go_simp)
        rw [HNP.out, show numsN m l = none by rw [numsN, HN2.out, HQ.out]; rfl]
        exact ⟨_, _, _, rfl, HO.tail⟩
      | some x =>
        obtain ⟨n, r'⟩ := x
        have HQ := Lib.hid (@takeN_some k n r r' hrd)
        have hlr := readB_len hrd
        rw [hrd] at hR
        simp only [retRead] at hR
        clear hrd
        by_cases hn : n ≤ 1073741824
        · have HQ2 := Lib.hid (HQ.out.trans (if_pos hn))
          have hn1 : (n : Int) ≤ 1073741824 := by omega
          have hd2 : decide (1073741824 < n) = false := by simp; omega
          have hw := wrap_i64n n (by omega)
          go_wp2_with (first | (first | go_big_skip | ((with_reducible apply wpList_loadAll HO); exact rfl; exact rfl; (repeat (with_reducible (first | exact At.head _ | apply At.tail))); infer_instance; exact rfl; exact rfl; (simp only [Act.put, List.setIfInBounds_toArray, List.set_cons_succ, List.set_cons_zero])) | ((with_reducible apply wpList_loadOne HO); exact rfl; exact rfl; (repeat (with_reducible (first | exact At.head _ | apply At.tail))); exact rfl; infer_instance; exact rfl; (simp only [Act.put, List.setIfInBounds_toArray, List.set_cons_succ, List.set_cons_zero]))) | (first | ((with_reducible apply wpList_lit1 HO); exact rfl; infer_instance; infer_instance; exact rfl; exact rfl; exact (by decide); exact rfl; clear HO; intro b1 w HO; (simp only [Act.put, List.setIfInBounds_toArray, List.set_cons_succ, List.set_cons_zero])) | ((with_reducible apply wpList_lit1c HO); exact rfl; infer_instance; infer_instance; (first | (simp [Act.eval]; rfl) | exact rfl); exact rfl; exact rfl; clear HO; intro b1 w HO; (simp only [Act.put, List.setIfInBounds_toArray, List.set_cons_succ, List.set_cons_zero]))) | ((with_reducible apply wpList_push1 HO); exact rfl; infer_instance; infer_instance; (first | (simp [Act.eval]; rfl) | exact rfl); exact rfl; intro _; (repeat (with_reducible (first | exact At.head _ | apply At.tail))); exact rfl; exact rfl; (first | omega | (simp; omega)); decide; exact rfl; clear HO; intro v2 w HO hv2; (simp only [Act.put, List.setIfInBounds_toArray, List.set_cons_succ, List.set_cons_zero])) | (go_at_call 65; go_must ((with_reducible refine (hR _).mono ?_); rintro e w ⟨rfl, hb⟩; replace HO := HO.call hb; clear hb)))
          go_roundw
          case rel => exact ⟨A ++ [n], r', j + 1, rfl, by go_num, by omega, by simp [HA.out], by omega, by rw [HN2.out, HQ2.out, show m - (j + 1) = k by omega, Option.map_map]; congr 1; funext x; simp, by rw [List.map_append]; exact HO⟩
          case measure => simp [intOf] <;> omega
        · have HQ2 := Lib.hid (HQ.out.trans (if_neg hn))
          have hn1 : (1073741824 : Int) < (n : Int) := by omega
          have hd2 : decide (1073741824 < n) = true := by simp; omega
          clear hn
          go_wp2_with (first | (first | go_big_skip | ((with_reducible apply wpList_loadAll HO); exact rfl; exact rfl; (repeat (with_reducible (first | exact At.head _ | apply At.tail))); infer_instance; exact rfl; exact rfl; (simp only [Act.put, List.setIfInBounds_toArray, List.set_cons_succ, List.set_cons_zero])) | ((with_reducible apply wpList_loadOne HO); exact rfl; exact rfl; (repeat (with_reducible (first | exact At.head _ | apply At.tail))); exact rfl; infer_instance; exact rfl; (simp only [Act.put, List.setIfInBounds_toArray, List.set_cons_succ, List.set_cons_zero]))) | (go_at_call 65; go_must ((with_reducible refine (hR _).mono ?_); rintro e w ⟨rfl, hb⟩; replace HO := HO.call hb; clear hb)))
          refine bodyPost_ret (v := .tuple #[.slice none 0 0, .bool false]) ?_ rfl ?_
          · (simp only [results, Tryd.results67]; go_simp)
          rw [HNP.out, show numsN m l = none by rw [numsN, HN2.out, HQ2.out]; rfl]
          exact ⟨_, _, _, rfl, HO.tail⟩
end Go.Proofs.YtlfphfklcifgpaaDoor

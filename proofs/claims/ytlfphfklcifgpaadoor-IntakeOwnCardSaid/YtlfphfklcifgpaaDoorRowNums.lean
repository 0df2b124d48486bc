/-
  All numbers that stand one behind the other, by walking the document's text; conditions: none.
-/
import Derived.Test.YtlfphfklcifgpaaDoorRefBits
import Derived.Test.YtlfphfklcifgpaaDoorOrdGet
import Derived.Test.YtlfphfklcifgpaaDoorRowNext
namespace Go.Proofs.YtlfphfklcifgpaaDoor
open Go.RowKit Go.Own

/-- The numbers of some bytes: none, if something else stands there. -/
def numsF : Nat → List UInt8 → Option (List Nat)
  | _, [] => some []
  | 0, _ => none
  | k + 1, l => match readB l with
    | some (n, r) => if n ≤ rdMost then (numsF k r).map (n :: ·) else none
    | none => none
theorem numsF_fuel : ∀ (k m : Nat) (l : List UInt8), l.length ≤ k → l.length ≤ m → numsF k l = numsF m l
  | k, m, [], _, _ => by cases k <;> cases m <;> rfl
  | 0, _, _ :: _, h, _ => by simp at h
  | _, 0, _ :: _, _, h => by simp at h
  | k + 1, m + 1, c :: l, h1, h2 => by
    simp only [numsF]
    cases hr : readB (c :: l) with
    | none => rfl
    | some x =>
      obtain ⟨n, r⟩ := x
      have := readB_len hr
      simp only [List.length_cons] at this h1 h2
      simp only
      rw [numsF_fuel k m r (by omega) (by omega)]
def numsOf (l : List UInt8) : Option (List Nat) := numsF l.length l
theorem numsOf_nil : numsOf [] = some [] := rfl
theorem numsOf_none {l : List UInt8} (h0 : l ≠ []) (h : readB l = none) : numsOf l = none := by
  unfold numsOf
  cases l with
  | nil => exact absurd rfl h0
  | cons c l => simp only [List.length_cons, numsF, h]
theorem numsOf_some {l r : List UInt8} {n : Nat} (h0 : l ≠ []) (h : readB l = some (n, r)) : numsOf l = if n ≤ rdMost then (numsOf r).map (n :: ·) else none := by
  have hl := readB_len h
  unfold numsOf
  cases l with
  | nil => exact absurd rfl h0
  | cons c l =>
    simp only [List.length_cons, numsF, h]
    simp only [List.length_cons] at hl
    rw [numsF_fuel l.length r.length r (by omega) (by omega)]

def numC (n : Nat) : List Value := [.int .u64 n]
theorem numLen (A : List Nat) : ∀ l ∈ A.map numC, l.length = 1 := fun l hl => by obtain ⟨x, _, rfl⟩ := List.mem_map.1 hl; rfl
/-- What the call hands back: the numbers, in memory of the caller's own. -/
def NumsPost (l : List UInt8) (W : World) (L : List Ent) (e : Ending) (w' : World) : Prop := match numsOf l with
  | some A => ∃ v', e = .returned (.tuple #[v', .bool true]) ∧ Own W w' (row 105 1 v' (A.map numC) :: L)
  | none => e = .returned (.tuple #[.slice none 0 0, .bool false]) ∧ Own W w' L

set_option maxHeartbeats 4000000 in
set_option maxRecDepth 100000 in
theorem numbers_any {W w : World} {L : List Ent} (l : List UInt8) (hl : l.length ≤ 100000) (HO : Own W w L) : Calls Tryd.prog 90 #[.string ⟨l.toArray⟩] w (NumsPost l W L) := by
  have hNP : NumsPost l W L = NumsPost l W L := rfl
  conv at hNP => rhs; unfold NumsPost
  have HNP := Lib.hid hNP
  clear hNP
  replace HO := HO.nil 105 1
  go_enter Tryd.func90, Tryd.ntmps90
  go_wp2_with fail
  go_loopw [0, 4] (fun s v wr => ∃ (A : List Nat) (r : List UInt8), s = .string ⟨r.toArray⟩ ∧ A.length + r.length ≤ l.length ∧ numsOf l = (numsOf r).map (A ++ ·) ∧ Own W wr (row 105 1 v (A.map numC) :: L)) (fun s _ _ => match s with | .string b => b.data.size | _ => 0)
  case atStart => exact ⟨[], l, rfl, by simp, by simp, HO⟩
  case round =>
    clear HO
    obtain ⟨A, r, rfl, hlen, hnum, HO⟩ := hrel
    have HN := Lib.hid hnum
    clear hnum
    obtain ⟨p, c, rfl⟩ := (HO.rowForm (.head _)).1
    rw [List.length_map] at HO ⊢
    by_cases hr0 : r = []
    · subst hr0
      go_wp2_with fail
      refine bodyPost_ret (v := .tuple #[.slice p A.length c, .bool true]) ?_ rfl ?_
      · (simp only [results, Tryd.results90]; go_simp)
      · rw [HNP.out, HN.out]
        exact ⟨_, rfl, by simpa using HO⟩
    · have hne : r.isEmpty = false := by cases r <;> simp_all
      have hne2 : (r == []) = false := by cases r <;> simp_all
      have hR := fun w => refRead_any r w (by unfold maxLen; omega)
      cases hr : readB r with
      | none =>
        have HQ := Lib.hid (numsOf_none hr0 hr)
        rw [hr] at hR
        simp only [retRead] at hR
        clear hr hr0
        go_wp2_with (first | (first | go_big_skip | ((with_reducible apply wpList_loadAll HO); exact rfl; exact rfl; (repeat (with_reducible (first | exact At.head _ | apply At.tail))); infer_instance; exact rfl; exact rfl; (simp only [Act.put, List.setIfInBounds_toArray, List.set_cons_succ, List.set_cons_zero])) | ((with_reducible apply wpList_loadOne HO); exact rfl; exact rfl; (repeat (with_reducible (first | exact At.head _ | apply At.tail))); exact rfl; infer_instance; exact rfl; (simp only [Act.put, List.setIfInBounds_toArray, List.set_cons_succ, List.set_cons_zero]))) | (go_at_call 69; go_must ((with_reducible refine (hR _).mono ?_); rintro e w ⟨rfl, hb⟩; replace HO := HO.call hb; clear hb)))
        refine bodyPost_ret (v := .tuple #[.slice none 0 0, .bool false]) ?_ rfl ?_
        · (simp only [results, Tryd.results90]; go_simp)
        · rw [HNP.out, HN.out, HQ.out]
          exact ⟨rfl, HO.tail⟩
      | some x =>
        obtain ⟨n, r'⟩ := x
        have HQ := Lib.hid (numsOf_some hr0 hr)
        have hlr := readB_len hr
        rw [hr] at hR
        simp only [retRead] at hR
        clear hr hr0
        by_cases hn : n ≤ rdMost
        · have HQ2 := Lib.hid (HQ.out.trans (if_pos hn))
          unfold rdMost at hn
          have hn1 : (n : Int) ≤ 1099511627776 := by omega
          have hd2 : decide (1099511627776 < n) = false := by simp; omega
          have hAl : A.length + 1 ≤ 1000000 := by omega
          go_wp2_with (first | (first | go_big_skip | ((with_reducible apply wpList_loadAll HO); exact rfl; exact rfl; (repeat (with_reducible (first | exact At.head _ | apply At.tail))); infer_instance; exact rfl; exact rfl; (simp only [Act.put, List.setIfInBounds_toArray, List.set_cons_succ, List.set_cons_zero])) | ((with_reducible apply wpList_loadOne HO); exact rfl; exact rfl; (repeat (with_reducible (first | exact At.head _ | apply At.tail))); exact rfl; infer_instance; exact rfl; (simp only [Act.put, List.setIfInBounds_toArray, List.set_cons_succ, List.set_cons_zero]))) | (first | ((with_reducible apply wpList_lit1 HO); exact rfl; infer_instance; infer_instance; exact rfl; exact rfl; exact (by decide); exact rfl; clear HO; intro b1 w HO; (simp only [Act.put, List.setIfInBounds_toArray, List.set_cons_succ, List.set_cons_zero])) | ((with_reducible apply wpList_lit1c HO); exact rfl; infer_instance; infer_instance; (first | (simp [Act.eval]; rfl) | exact rfl); exact rfl; exact rfl; clear HO; intro b1 w HO; (simp only [Act.put, List.setIfInBounds_toArray, List.set_cons_succ, List.set_cons_zero]))) | ((with_reducible apply wpList_push1 HO); exact rfl; infer_instance; infer_instance; (first | (simp [Act.eval]; rfl) | exact rfl); exact rfl; intro _; (repeat (with_reducible (first | exact At.head _ | apply At.tail))); exact rfl; exact rfl; (first | omega | (simp; omega)); decide; exact rfl; clear HO; intro v2 w HO hv2; (simp only [Act.put, List.setIfInBounds_toArray, List.set_cons_succ, List.set_cons_zero])) | (go_at_call 69; go_must ((with_reducible refine (hR _).mono ?_); rintro e w ⟨rfl, hb⟩; replace HO := HO.call hb; clear hb)))
          go_roundw
          case rel => exact ⟨A ++ [n], r', rfl, by simp; omega, by rw [HN.out, HQ2.out]; cases numsOf r' <;> simp, by rw [List.map_append]; exact HO⟩
          case measure => simp; omega
        · have HQ2 := Lib.hid (HQ.out.trans (if_neg hn))
          unfold rdMost at hn
          have hn1 : (1099511627776 : Int) < (n : Int) := by omega
          have hd2 : decide (1099511627776 < n) = true := by simp; omega
          clear hn
          go_wp2_with (first | (first | go_big_skip | ((with_reducible apply wpList_loadAll HO); exact rfl; exact rfl; (repeat (with_reducible (first | exact At.head _ | apply At.tail))); infer_instance; exact rfl; exact rfl; (simp only [Act.put, List.setIfInBounds_toArray, List.set_cons_succ, List.set_cons_zero])) | ((with_reducible apply wpList_loadOne HO); exact rfl; exact rfl; (repeat (with_reducible (first | exact At.head _ | apply At.tail))); exact rfl; infer_instance; exact rfl; (simp only [Act.put, List.setIfInBounds_toArray, List.set_cons_succ, List.set_cons_zero]))) | (go_at_call 69; go_must ((with_reducible refine (hR _).mono ?_); rintro e w ⟨rfl, hb⟩; replace HO := HO.call hb; clear hb)))
          refine bodyPost_ret (v := .tuple #[.slice none 0 0, .bool false]) ?_ rfl ?_
          · (simp only [results, Tryd.results90]; go_simp)
          · rw [HNP.out, HN.out, HQ2.out]
            exact ⟨rfl, HO.tail⟩
end Go.Proofs.YtlfphfklcifgpaaDoor

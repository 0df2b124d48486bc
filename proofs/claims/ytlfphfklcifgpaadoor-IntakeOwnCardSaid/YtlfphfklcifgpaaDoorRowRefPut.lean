/-
  A statement's bytes, by walking the document's text; conditions: the rows lie in memory.
-/
import Derived.Test.YtlfphfklcifgpaaDoorRowPay
import Derived.Test.YtlfphfklcifgpaaDoorOrders
namespace Go.Proofs.YtlfphfklcifgpaaDoor
open Go.RowKit Go.Own

def rowBytes (r : RowS) : List UInt8 := varF 10 r.o.toNat ++ (varF 10 r.d.toNat ++ (varF 10 r.code.toNat ++ (varF 10 r.amt.toNat ++ varF 10 r.qty.toNat)))
def bytesTo (rs : List RowS) : Nat → List UInt8
  | 0 => []
  | j + 1 => bytesTo rs j ++ match rs[j]? with
    | some r => rowBytes r
    | none => []
def headB (p q : Int) (n : Nat) : List UInt8 := varF 10 p.toNat ++ (varF 10 q.toNat ++ varF 10 n)
def putStmt (p q : Int) (rs : List RowS) : List UInt8 := if okStmt p q rs = true then headB p q rs.length ++ bytesTo rs rs.length else []
theorem bytesTo_succ {rs : List RowS} {j : Nat} (hj : j < rs.length) : bytesTo rs (j + 1) = bytesTo rs j ++ rowBytes rs[j] := by
  simp [bytesTo, List.getElem?_eq_getElem hj]
theorem rowBytes_len (r : RowS) : (rowBytes r).length ≤ 50 := by
  have h1 := varF_len 10 r.o.toNat
  have h2 := varF_len 10 r.d.toNat
  have h3 := varF_len 10 r.code.toNat
  have h4 := varF_len 10 r.amt.toNat
  have h5 := varF_len 10 r.qty.toNat
  simp only [rowBytes, List.length_append]; omega
theorem bytesTo_len (rs : List RowS) : ∀ j, (bytesTo rs j).length ≤ 50 * j
  | 0 => by simp [bytesTo]
  | j + 1 => by
    have ih := bytesTo_len rs j
    simp only [bytesTo, List.length_append]
    split
    · rename_i r _
      have := rowBytes_len r
      omega
    · simp; omega
theorem headB_len (p q : Int) (n : Nat) : (headB p q n).length ≤ 30 := by
  have h1 := varF_len 10 p.toNat
  have h2 := varF_len 10 q.toNat
  have h3 := varF_len 10 n
  simp only [headB, List.length_append]; omega
theorem rowBounds {r : RowS} {p : Int} (h : mayRow r p = true) : 1 ≤ r.o ∧ r.o ≤ 60 ∧ 0 ≤ r.d ∧ r.d < 6 ∧ 1 ≤ r.code ∧ r.code ≤ 2 ∧ 0 ≤ r.amt ∧ r.amt ≤ 1099511627776 ∧ 0 ≤ r.qty ∧ r.qty ≤ 999 := by
  simp only [mayRow, keyOk, isDeed, Bool.and_eq_true, Bool.or_eq_true, decide_eq_true_eq] at h
  obtain ⟨⟨⟨⟨⟨h1, h2⟩, h3, h4⟩, _⟩, hc⟩, h5⟩ := h
  have : 0 ≤ r.amt ∧ r.amt ≤ 1099511627776 ∧ 0 ≤ r.qty ∧ r.qty ≤ 999 := by
    split at h5
    · simp at h5; omega
    · split at h5 <;> simp at h5 <;> omega
  omega
theorem okStmt_ok {p q : Int} {rs : List RowS} (h : okStmt p q rs = true) : 1 ≤ q ∧ q ≤ 1073741824 ∧ 0 ≤ p ∧ p ≤ 2 ∧ rs.length ≤ 400 ∧ chkRows rs p = true := by
  simp only [okStmt, Bool.and_eq_true, decide_eq_true_eq] at h
  have h2 := h.2
  simp only [chkRows, Bool.and_eq_true, decide_eq_true_eq] at h2
  exact ⟨h.1.1, h.1.2, h2.1.1.1, h2.1.1.2, h2.1.2, h.2⟩

set_option maxHeartbeats 4000000 in
set_option maxRecDepth 100000 in
theorem refPutStmt_any {w : World} {v : Value} {rs : List RowS} (p q : Int) (h : IsRows w v rs) :
    Calls Tryd.prog 64 #[.agg #[.int .i64 p, .int .i64 q, v]] w fun e w' => e = .returned (.string ⟨(putStmt p q rs).toArray⟩) ∧ Below w.heap.size w w' := by
  have hC := fun w' (hb : Below w.heap.size w w') => refValid_any p q (h.below hb h.lt)
  obtain ⟨sp, sc, rfl, hmx0⟩ := h.slice
  have hmx : (rs.length : Int) ≤ 9223372036854775807 := by unfold maxLen at hmx0; omega
  cases hk : okStmt p q rs
  · rw [hk] at hC
    have HQ := Lib.hid (show putStmt p q rs = [] by simp [putStmt, hk])
    clear hk h
    go_enter Tryd.func64, Tryd.ntmps64
    go_wp2_with (go_at_call 46; go_must ((with_reducible refine (hC _ (by with_reducible (repeat (first | assumption | exact Below.refl _ _ | refine Below.drew ?_ | refine below_drewN ?_ _ | refine Below.alloc ?_ (by first | (simp; done) | omega | (simp; omega)) _ | refine Below.setCell ?_ (by first | (simp; done) | omega | (simp; omega)) _ | refine Below.trans ?_ (Below.mono (by assumption) (by first | (simp; done) | omega | (simp; omega))))))).mono ?_); rintro e w1 ⟨rfl, hb⟩; obtain ⟨hc, hf⟩ := bcell hb; have hz := hb.size; (try simp at hz); (try have hzT := Nat.lt_of_succ_le hz); have hzA : w.heap.size < w1.heap.size := (by omega); have hzA2 := Nat.le_of_lt hzA))
    go_ret
    exact ⟨ret_list (by rw [HQ.out]), (by with_reducible (repeat (first | assumption | exact Below.refl _ _ | refine Below.drew ?_ | refine below_drewN ?_ _ | refine Below.alloc ?_ (by first | (simp; done) | omega | (simp; omega)) _ | refine Below.setCell ?_ (by first | (simp; done) | omega | (simp; omega)) _ | refine Below.trans ?_ (Below.mono (by assumption) (by first | (simp; done) | omega | (simp; omega))))))⟩
  · have HQ := Lib.hid (show putStmt p q rs = headB p q rs.length ++ bytesTo rs rs.length by simp [putStmt, hk])
    obtain ⟨q1, q2, p1, p2, hl4, hck⟩ := okStmt_ok hk
    have HP := Lib.hid (fun j hj => rowBounds (@chkRows_row rs p hck j hj).1)
    have HH := Lib.hid h
    rw [hk] at hC
    have hlb := h.lt
    clear hk h hck
    obtain ⟨i, rfl⟩ := Int.eq_ofNat_of_zero_le (show 0 ≤ p by omega)
    obtain ⟨k, rfl⟩ := Int.eq_ofNat_of_zero_le (show 0 ≤ q by omega)
    have e1 := wrap_u64 i (by omega)
    have e2 := wrap_u64 k (by omega)
    have e3 := wrap_u64 rs.length (by omega)
    have V1 := fun w => refVar_ten i w (by omega)
    have V2 := fun w => refVar_ten k w (by omega)
    have V3 := fun w => refVar_ten rs.length w (by omega)
    have l1 := varF_len 10 i
    have l2 := varF_len 10 k
    have l3 := varF_len 10 rs.length
    go_enter Tryd.func64, Tryd.ntmps64
    go_wp2_with (go_at_call 46; go_must ((with_reducible refine (hC _ (by with_reducible (repeat (first | assumption | exact Below.refl _ _ | refine Below.drew ?_ | refine below_drewN ?_ _ | refine Below.alloc ?_ (by first | (simp; done) | omega | (simp; omega)) _ | refine Below.setCell ?_ (by first | (simp; done) | omega | (simp; omega)) _ | refine Below.trans ?_ (Below.mono (by assumption) (by first | (simp; done) | omega | (simp; omega))))))).mono ?_); rintro e w1 ⟨rfl, hb⟩; obtain ⟨hc, hf⟩ := bcell hb; have hz := hb.size; (try simp at hz); (try have hzT := Nat.lt_of_succ_le hz); have hzA : w.heap.size < w1.heap.size := (by omega); have hzA2 := Nat.le_of_lt hzA))
    clear hC
    have g0 : w.heap.size < w1.heap.size := by omega
    refine region_later (by kernel_rfl) (by kernel_rfl) ?_
    repeat (first | go_big_quiet_step ((go_at_call 84; first | (with_reducible exact calls_later (Nat.le_refl _) (V1 _)) | (with_reducible exact calls_later (Nat.le_refl _) (V2 _)) | (with_reducible exact calls_later (Nat.le_refl _) (V3 _)))) | quiet_step ((go_at_call 84; first | (with_reducible exact calls_later (Nat.le_refl _) (V1 _)) | (with_reducible exact calls_later (Nat.le_refl _) (V2 _)) | (with_reducible exact calls_later (Nat.le_refl _) (V3 _)))))
    refine wpQuiet_nil ?_
    intro w1 hb
    obtain ⟨hc, hf⟩ := bcell hb
    go_wp2_with fail
    clear V1 V2 V3
    go_loopw [3, 4] (fun o k' wr => ∃ j : Nat, j ≤ rs.length ∧ k' = .int .i64 (j : Int) ∧ o = .string ⟨(headB i k rs.length ++ bytesTo rs j).toArray⟩ ∧ Below (w.heap.size + 1) (w.alloc (.cells #[.int .i64 i, .int .i64 k, .slice sp rs.length sc] 28)) wr) (fun _ k' _ => (rs.length - (intOf k').toNat))
    case atStart => exact ⟨0, by omega, rfl, by simp [headB, bytesTo], (by with_reducible (repeat (first | assumption | exact Below.refl _ _ | refine Below.drew ?_ | refine below_drewN ?_ _ | refine Below.alloc ?_ (by first | (simp; done) | omega | (simp; omega)) _ | refine Below.setCell ?_ (by first | (simp; done) | omega | (simp; omega)) _ | refine Below.trans ?_ (Below.mono (by assumption) (by first | (simp; done) | omega | (simp; omega))))))⟩
    case round =>
      obtain ⟨j, hj, rfl, rfl, hbr⟩ := hrel
      have hbw : Below w.heap.size w wr := Below.trans (by with_reducible (repeat (first | assumption | exact Below.refl _ _ | refine Below.drew ?_ | refine below_drewN ?_ _ | refine Below.alloc ?_ (by first | (simp; done) | omega | (simp; omega)) _ | refine Below.setCell ?_ (by first | (simp; done) | omega | (simp; omega)) _ | refine Below.trans ?_ (Below.mono (by assumption) (by first | (simp; done) | omega | (simp; omega)))))) (hbr.mono (by omega))
      clear hb hc hf hz g0
      obtain ⟨hc, hf⟩ := bcell hbr
      have hz := hbr.size
      simp at hz
      by_cases hjl : j = rs.length
      · subst hjl
        go_wp2_with fail
        go_ret
        exact ⟨ret_list (by rw [HQ.out]), (by with_reducible (repeat (first | assumption | exact Below.refl _ _ | refine Below.drew ?_ | refine below_drewN ?_ _ | refine Below.alloc ?_ (by first | (simp; done) | omega | (simp; omega)) _ | refine Below.setCell ?_ (by first | (simp; done) | omega | (simp; omega)) _ | refine Below.trans ?_ (Below.mono (by assumption) (by first | (simp; done) | omega | (simp; omega))))))⟩
      · have hj1 : j < rs.length := by omega
        have hj2 : (j : Int) < (rs.length : Int) := by omega
        obtain ⟨a, cap, hv, hlen, hcap, hR⟩ := HH.out.at (by omega)
        obtain ⟨rfl, -, rfl⟩ : sp = some a ∧ rs.length = rs.length ∧ sc = cap := by simpa using hv
        have hRr := hR.below hbw hR.lt
        have c0 := hRr.c0 j hj1
        have c1 := hRr.c1 j hj1
        have c2 := hRr.c2 j hj1
        have c3 := hRr.c3 j hj1
        have c4 := hRr.c4 j hj1
        have hb0 : (a.add (j * 5)).block < wr.heap.size := hRr.lt' _
        obtain ⟨b1, b2, b3, b4, b5, b6, b7, b8, b9, b10⟩ := HP.out j hj1
        have HS := Lib.hid (bytesTo_succ hj1)
        have hl5 := bytesTo_len rs j
        have hl6 := headB_len i k rs.length
        have hzA : w.heap.size < wr.heap.size := by omega
        clear hRr hR hv
        generalize rs[j] = r at *
        obtain ⟨o, d, code, amt, qty⟩ := r
        simp only at c0 c1 c2 c3 c4 b1 b2 b3 b4 b5 b6 b7 b8 b9 b10
        obtain ⟨o, rfl⟩ := Int.eq_ofNat_of_zero_le (show 0 ≤ o by omega)
        obtain ⟨d, rfl⟩ := Int.eq_ofNat_of_zero_le (show 0 ≤ d by omega)
        obtain ⟨code, rfl⟩ := Int.eq_ofNat_of_zero_le (show 0 ≤ code by omega)
        obtain ⟨amt, rfl⟩ := Int.eq_ofNat_of_zero_le (show 0 ≤ amt by omega)
        obtain ⟨qty, rfl⟩ := Int.eq_ofNat_of_zero_le (show 0 ≤ qty by omega)
        have HO := Lib.hid (show headB i k rs.length ++ bytesTo rs (j + 1) = headB i k rs.length ++ bytesTo rs j ++ varF 10 o ++ varF 10 d ++ varF 10 code ++ varF 10 amt ++ varF 10 qty by
          rw [HS.out]; simp only [rowBytes, Int.toNat_natCast, List.append_assoc])
        have hl7 : (headB i k rs.length ++ bytesTo rs j).length ≤ 30 + 50 * 400 := by simp only [List.length_append]; omega
        generalize headB i k rs.length ++ bytesTo rs j = X at *
        have e1 := wrap_u64 o (by omega)
        have e2 := wrap_u64 d (by omega)
        have e3 := wrap_u64 code (by omega)
        have e4 := wrap_u64 amt (by omega)
        have e5 := wrap_u64 qty (by omega)
        have V1 := fun w => refVar_ten o w (by omega)
        have V2 := fun w => refVar_ten d w (by omega)
        have V3 := fun w => refVar_ten code w (by omega)
        have V4 := fun w => refVar_ten amt w (by omega)
        have V5 := fun w => refVar_ten qty w (by omega)
        have l1 := varF_len 10 o
        have l2 := varF_len 10 d
        have l3 := varF_len 10 code
        have l4 := varF_len 10 amt
        have l5 := varF_len 10 qty
        go_wp2_with fail
        refine region_later (by kernel_rfl) (by kernel_rfl) ?_
        repeat (first | go_big_quiet_step ((go_at_call 84; first | (with_reducible exact calls_later (by first | exact Nat.le_refl _ | (simp; done)) (V1 _)) | (with_reducible exact calls_later (by first | exact Nat.le_refl _ | (simp; done)) (V2 _)) | (with_reducible exact calls_later (by first | exact Nat.le_refl _ | (simp; done)) (V3 _)) | (with_reducible exact calls_later (by first | exact Nat.le_refl _ | (simp; done)) (V4 _)) | (with_reducible exact calls_later (by first | exact Nat.le_refl _ | (simp; done)) (V5 _)))) | quiet_step ((go_at_call 84; first | (with_reducible exact calls_later (by first | exact Nat.le_refl _ | (simp; done)) (V1 _)) | (with_reducible exact calls_later (by first | exact Nat.le_refl _ | (simp; done)) (V2 _)) | (with_reducible exact calls_later (by first | exact Nat.le_refl _ | (simp; done)) (V3 _)) | (with_reducible exact calls_later (by first | exact Nat.le_refl _ | (simp; done)) (V4 _)) | (with_reducible exact calls_later (by first | exact Nat.le_refl _ | (simp; done)) (V5 _)))))
        refine wpQuiet_nil ?_
        intro w1 hb
        obtain ⟨hc, hf⟩ := bcell hb
        go_wp2_with fail
        go_roundw
        case rel => exact ⟨j + 1, by omega, by go_num, by rw [HO.out]; simp only [List.append_assoc], (by with_reducible (repeat (first | assumption | exact Below.refl _ _ | refine Below.drew ?_ | refine below_drewN ?_ _ | refine Below.alloc ?_ (by first | (simp; done) | omega | (simp; omega)) _ | refine Below.setCell ?_ (by first | (simp; done) | omega | (simp; omega)) _ | refine Below.trans ?_ (Below.mono (by assumption) (by first | (simp; done) | omega | (simp; omega))))))⟩
        case measure => simp [intOf] <;> omega
end Go.Proofs.YtlfphfklcifgpaaDoor
